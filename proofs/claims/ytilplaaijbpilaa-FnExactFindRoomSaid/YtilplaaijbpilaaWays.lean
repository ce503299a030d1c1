/- Part of the proofs of this seat's laws: Ways. No condition. -/
import Derived.Test.YtilplaaijbpilaaNet
import Derived.Test.YtilplaaijbpilaaLac
import Derived.Test.YtilplaaijbpilaaLad
import Derived.Test.YtilplaaijbpilaaLab
import Derived.Test.YtilplaaijbpilaaLaa
set_option linter.unusedVariables false
set_option linter.unusedSimpArgs false
set_option linter.unusedSectionVars false
/- Arrivals: rounds over the legs; they settle within as many rounds as there are places. -/
namespace Go.Vs
open Go.IntWalk
def lab (l : List Int) (i : Nat) : Int := l.getD i (-1)
theorem lab_get {l : List Int} {i : Nat} (h : i < l.length) : l[i]? = some (lab l i) := by
  unfold lab
  rw [List.getD_eq_getElem?_getD, List.getElem?_eq_getElem h]; rfl
theorem lab_set {l : List Int} {i j : Nat} {x : Int} (h : i < l.length) : lab (l.set i x) j = if i = j then x else lab l j := by
  unfold lab
  rw [List.getD_eq_getElem?_getD, List.getD_eq_getElem?_getD, List.getElem?_set]
  by_cases e : i = j
  · subst e; simp [h]
  · simp [e]
def aI (n : Network) (z : Leg) : Nat := ixN (plc n) z.From
def bI (n : Network) (z : Leg) : Nat := ixN (plc n) z.To
def rdy (n : Network) (x : Int) (first : Bool) : Int := if first = true then x else x + n.Change
/-- what a leg gives: when it ends -/
def via (n : Network) (f : Int → Int → Option Int) (st : Nat) (best : List Int) (z : Leg) (v : Int) : Option Int :=
  if lab best (aI n z) < 0 then none else (f v (rdy n (lab best (aI n z)) (decide (aI n z = st)))).map (enN n v)
def better (out : List Int) (b : Nat) (e : Int) : Prop := lab out b < 0 ∨ e < lab out b
instance (out : List Int) (b : Nat) (e : Int) : Decidable (better out b e) := inferInstanceAs (Decidable (_ ∨ _))
def rnd1 (n : Network) (f : Int → Int → Option Int) (st : Nat) (best : List Int) : List Leg → Int → List Int → List Int
  | [], _, out => out
  | z :: ls, v, out => match via n f st best z v with
    | none => rnd1 n f st best ls (v + 1) out
    | some e => if better out (bI n z) e then rnd1 n f st best ls (v + 1) (out.set (bI n z) e) else rnd1 n f st best ls (v + 1) out
def chg (n : Network) (f : Int → Int → Option Int) (st : Nat) (best : List Int) : List Leg → Int → List Int → Bool
  | [], _, _ => false
  | z :: ls, v, out => match via n f st best z v with
    | none => chg n f st best ls (v + 1) out
    | some e => if better out (bI n z) e then true else chg n f st best ls (v + 1) out
theorem chg_false {n : Network} {f : Int → Int → Option Int} {st : Nat} {best : List Int} : ∀ {ls : List Leg} {v : Int} {out : List Int}, chg n f st best ls v out = false → rnd1 n f st best ls v out = out
  | [], _, _, _ => rfl
  | z :: ls, v, out, h => by
    unfold chg at h
    unfold rnd1
    split at h
    · exact chg_false h
    · split at h
      · cases h
      · rename_i hb; simp only [if_neg hb]; exact chg_false h
/-- one round -/
def rnd (n : Network) (f : Int → Int → Option Int) (st : Nat) (best : List Int) : List Int := rnd1 n f st best n.Legs 0 best
def itr (n : Network) (f : Int → Int → Option Int) (st : Nat) : Nat → List Int → List Int
  | 0, best => best
  | m + 1, best => itr n f st m (rnd n f st best)
theorem itr_fix {n : Network} {f : Int → Int → Option Int} {st : Nat} {best : List Int} (h : rnd n f st best = best) : ∀ m, itr n f st m best = best
  | 0 => rfl
  | m + 1 => by rw [itr, h, itr_fix h m]
theorem itr_add {n : Network} {f : Int → Int → Option Int} {st : Nat} : ∀ (a b : Nat) (best : List Int), itr n f st (a + b) best = itr n f st b (itr n f st a best)
  | 0, b, best => by rw [Nat.zero_add]; rfl
  | a + 1, b, best => by rw [show a + 1 + b = (a + b) + 1 by omega, itr, itr, itr_add a b]
theorem itr_succ {n : Network} {f : Int → Int → Option Int} {st : Nat} (m : Nat) (best : List Int) : itr n f st (m + 1) best = rnd n f st (itr n f st m best) := itr_add m 1 best

theorem rnd1_len {n : Network} {f : Int → Int → Option Int} {st : Nat} {best : List Int} : ∀ (ls : List Leg) (v : Int) (out : List Int), (rnd1 n f st best ls v out).length = out.length
  | [], _, _ => rfl
  | z :: ls, v, out => by
    unfold rnd1
    split
    · exact rnd1_len ls _ _
    · split
      · rw [rnd1_len ls]; simp
      · exact rnd1_len ls _ _
theorem itr_len {n : Network} {f : Int → Int → Option Int} {st : Nat} : ∀ (m : Nat) (best : List Int), (itr n f st m best).length = best.length
  | 0, _ => rfl
  | m + 1, best => by rw [itr, itr_len m, rnd, rnd1_len]
/-- what a round's labels are: as before, or better and by a leg -/
theorem rnd1_lab {n : Network} {f : Int → Int → Option Int} {st : Nat} {best : List Int} (hb : ∀ z ∈ n.Legs, bI n z < best.length) (he : ∀ z v e, via n f st best z v = some e → 0 ≤ e) : ∀ (ls : List Leg) (k : Nat) (out : List Int), n.Legs.drop k = ls → out.length = best.length → ∀ i,
    (lab (rnd1 n f st best ls (k : Int) out) i = lab out i ∨ ∃ j z e, n.Legs[j]? = some z ∧ k ≤ j ∧ bI n z = i ∧ via n f st best z (j : Int) = some e ∧ lab (rnd1 n f st best ls (k : Int) out) i = e ∧ better out i e) ∧
    (∀ j z e, n.Legs[j]? = some z → k ≤ j → bI n z = i → via n f st best z (j : Int) = some e → ¬ better (rnd1 n f st best ls (k : Int) out) i e)
  | [], k, out, hd, hl, i => by
    refine ⟨.inl rfl, fun j z e h1 h2 _ _ => ?_⟩
    have := List.drop_eq_nil_iff.1 hd
    rw [List.getElem?_eq_none (by omega)] at h1
    cases h1
  | z :: ls, k, out, hd, hl, i => by
    have hk : k < n.Legs.length := by
      have := congrArg List.length hd
      simp at this; omega
    have hz : n.Legs[k]? = some z := by
      have : (n.Legs.drop k)[0]? = some z := by rw [hd]; rfl
      simpa using this
    have hd2 : n.Legs.drop (k + 1) = ls := by
      have := congrArg List.tail hd
      simpa using this
    have hbz := hb z (List.mem_of_getElem? hz)
    have hk1 : (k : Int) + 1 = ((k + 1 : Nat) : Int) := by omega
    have other : ∀ (o : List Int), o.length = best.length → (∀ e, via n f st best z (k : Int) = some e → bI n z = i → ¬ better o i e) → (∀ e, better o i e → better out i e) → (lab o i = lab out i ∨ ∃ e, bI n z = i ∧ via n f st best z (k : Int) = some e ∧ lab o i = e ∧ better out i e) →
        (lab (rnd1 n f st best ls ((k + 1 : Nat) : Int) o) i = lab out i ∨ ∃ j z e, n.Legs[j]? = some z ∧ k ≤ j ∧ bI n z = i ∧ via n f st best z (j : Int) = some e ∧ lab (rnd1 n f st best ls ((k + 1 : Nat) : Int) o) i = e ∧ better out i e) ∧
        (∀ j z e, n.Legs[j]? = some z → k ≤ j → bI n z = i → via n f st best z (j : Int) = some e → ¬ better (rnd1 n f st best ls ((k + 1 : Nat) : Int) o) i e) := by
      intro o ho h1 h2 h3
      obtain ⟨a1, a2⟩ := rnd1_lab hb he ls (k + 1) o hd2 ho i
      refine ⟨?_, fun j z' e g1 g2 g3 g4 => ?_⟩
      · rcases a1 with a1 | ⟨j, z', e, g1, g2, g3, g4, g5, g6⟩
        · rw [a1]
          rcases h3 with h3 | ⟨e, h3, h4, h5, h6⟩
          · exact .inl h3
          · exact .inr ⟨k, z, e, hz, Nat.le_refl _, h3, h4, h5, h6⟩
        · exact .inr ⟨j, z', e, g1, by omega, g3, g4, g5, h2 e g6⟩
      · by_cases hj : j = k
        · subst hj
          rw [hz] at g1
          cases g1
          have hnb := h1 e g4 g3
          have h0 := he _ _ _ g4
          rcases a1 with a1 | ⟨j, z', e', q1, q2, q3, q4, q5, q6⟩
          · unfold better at hnb ⊢; rw [a1]; exact hnb
          · have h0' := he _ _ _ q4
            unfold better at hnb q6 ⊢
            rw [q5]; omega
        · exact a2 j z' e g1 (by omega) g3 g4
    unfold rnd1
    split
    · rename_i hv
      rw [hk1]
      exact other out hl (fun e h => by rw [hv] at h; cases h) (fun _ h => h) (.inl rfl)
    · rename_i e hv
      have h0 := he _ _ _ hv
      rw [hk1]
      split
      · rename_i hbt
        refine other (out.set (bI n z) e) (by simpa using hl) (fun e' h1 h2 => ?_) (fun e' h => ?_) ?_
        · rw [hv] at h1; cases h1
          unfold better
          rw [lab_set (by omega), if_pos h2]; omega
        · unfold better at h ⊢
          rw [lab_set (by omega)] at h
          split at h
          · rename_i hbi
            subst hbi
            unfold better at hbt
            omega
          · exact h
        · rw [lab_set (by omega)]
          by_cases hbi : bI n z = i
          · rw [if_pos hbi]; subst hbi; exact .inr ⟨e, rfl, hv, rfl, hbt⟩
          · rw [if_neg hbi]; exact .inl rfl
      · rename_i hbt
        refine other out hl (fun e' h1 h2 => ?_) (fun _ h => h) (.inl rfl)
        rw [hv] at h1; cases h1
        subst h2
        exact hbt
end Go.Vs
/- Arrivals settle: after as many rounds as there are places nothing changes. -/
namespace Go.Vs
open Go.IntWalk
theorem nodup_bound : ∀ (m : Nat) (L : List Nat), L.Nodup → (∀ w ∈ L, w < m) → L.length ≤ m
  | 0, L, _, h => by
    cases L with
    | nil => simp
    | cons x l => have := h x (by simp); omega
  | m + 1, L, hn, h => by
    have h1 := nodup_bound m (L.erase m) (hn.erase m) (fun w hw => by
      have hw2 := List.mem_of_mem_erase hw
      have := h w hw2
      have hne : w ≠ m := fun e => by
        subst e
        exact (List.Nodup.not_mem_erase hn) hw
      omega)
    have h2 := List.length_erase_le (a := m) (l := L)
    by_cases hm : m ∈ L
    · rw [List.length_erase_of_mem hm] at h1; omega
    · rw [List.erase_of_not_mem hm] at h1; omega
theorem lab_ext {a b : List Int} (hl : a.length = b.length) (h : ∀ i, lab a i = lab b i) : a = b := by
  refine List.ext_getElem? fun i => ?_
  by_cases hi : i < a.length
  · rw [lab_get hi, lab_get (by omega), h]
  · rw [List.getElem?_eq_none (by omega), List.getElem?_eq_none (by omega)]
theorem lab_pos {l : List Int} {i : Nat} (h : 0 ≤ lab l i) : i < l.length := by
  rcases Nat.lt_or_ge i l.length with hi | hi
  · exact hi
  · exfalso
    unfold lab at h
    rw [List.getD_eq_getElem?_getD, List.getElem?_eq_none hi] at h
    simp at h
section
variable {n : Network} {f : Int → Int → Option Int} {st : Nat}
theorem leg_idx {z : Leg} (hz : z ∈ n.Legs) : aI n z < (plc n).length ∧ bI n z < (plc n).length :=
  ⟨(ixN_get ((plc_mem n _).2 ⟨z, hz, .inl rfl⟩)).1, (ixN_get ((plc_mem n _).2 ⟨z, hz, .inr rfl⟩)).1⟩
/-- what is asked of a network and its finder -/
structure FOk (n : Network) (f : Int → Int → Option Int) : Prop where
  net : NetOk n
  ok : ∀ {l a d}, f l a = some d → runsB n l d = true ∧ a ≤ stN n l d
theorem via_spec (h : FOk n f) {best : List Int} {z : Leg} {v e : Int} (hv : via n f st best z v = some e) : 0 ≤ lab best (aI n z) ∧ lab best (aI n z) < e ∧ e ≤ 92159 ∧ ∃ d, f v (rdy n (lab best (aI n z)) (decide (aI n z = st))) = some d ∧ e = enN n v d := by
  unfold via at hv
  split at hv
  · cases hv
  · rename_i h0
    simp only [Option.map_eq_some_iff] at hv
    obtain ⟨d, h1, rfl⟩ := hv
    obtain ⟨h2, h3⟩ := h.ok h1
    have hl := h.net.len
    obtain ⟨r1, r2, r3, r4⟩ := runs_ok (n := n) (by omega) h2
    obtain ⟨q1, q2, q3, q4⟩ := st_rng h.net r1 r2 r3 r4
    have hc := h.net.change
    have hr : lab best (aI n z) ≤ rdy n (lab best (aI n z)) (decide (aI n z = st)) := by unfold rdy; split <;> omega
    exact ⟨by omega, by omega, q4, d, h1, rfl⟩
theorem via_congr {b1 b2 : List Int} {z : Leg} (h : lab b1 (aI n z) = lab b2 (aI n z)) (v : Int) : via n f st b1 z v = via n f st b2 z v := by unfold via; rw [h]
theorem rnd_lab (h : FOk n f) {best : List Int} (hl : best.length = (plc n).length) (i : Nat) :
    (lab (rnd n f st best) i = lab best i ∨ ∃ (j : Nat) (z : Leg) (e : Int), n.Legs[j]? = some z ∧ bI n z = i ∧ via n f st best z (j : Int) = some e ∧ lab (rnd n f st best) i = e ∧ better best i e) ∧
    (∀ (j : Nat) (z : Leg) (e : Int), n.Legs[j]? = some z → bI n z = i → via n f st best z (j : Int) = some e → ¬ better (rnd n f st best) i e) := by
  obtain ⟨a1, a2⟩ := rnd1_lab (n := n) (f := f) (st := st) (best := best) (fun z hz => by rw [hl]; exact (leg_idx hz).2) (fun z v e hv => by
    obtain ⟨q1, q2, _⟩ := via_spec h hv; omega) n.Legs 0 best (by simp) rfl i
  refine ⟨?_, fun j z e h1 h2 h3 => a2 j z e h1 (by omega) h2 h3⟩
  rcases a1 with a1 | ⟨j, z, e, g1, g2, g3, g4, g5, g6⟩
  · exact .inl a1
  · exact .inr ⟨j, z, e, g1, g3, g4, g5, g6⟩
theorem rnd_len {best : List Int} : (rnd n f st best).length = best.length := rnd1_len _ _ _
theorem rnd_mono (h : FOk n f) {best : List Int} (hl : best.length = (plc n).length) {i : Nat} (h0 : 0 ≤ lab best i) : 0 ≤ lab (rnd n f st best) i ∧ lab (rnd n f st best) i ≤ lab best i := by
  rcases (rnd_lab (st := st) h hl i).1 with e | ⟨j, z, e, g1, g2, g3, g4, g5⟩
  · omega
  · obtain ⟨q1, q2, _⟩ := via_spec h g3
    unfold better at g5
    omega
/-- a change comes by a place that changed a round before -/
theorem change_by (h : FOk n f) {best : List Int} (hl : best.length = (plc n).length) {i : Nat} (hc : lab (rnd n f st (rnd n f st best)) i ≠ lab (rnd n f st best) i) :
    ∃ u, lab (rnd n f st best) u ≠ lab best u ∧ 0 ≤ lab (rnd n f st best) u ∧ lab (rnd n f st best) u < lab (rnd n f st (rnd n f st best)) i ∧ better (rnd n f st best) i (lab (rnd n f st (rnd n f st best)) i) := by
  rcases (rnd_lab (st := st) h (rnd_len.trans hl) i).1 with e | ⟨j, z, e, g1, g2, g3, g4, g5⟩
  · exact absurd e hc
  · obtain ⟨q1, q2, _⟩ := via_spec h g3
    refine ⟨aI n z, fun he => ?_, q1, by omega, by rw [g4]; exact g5⟩
    rw [via_congr he] at g3
    exact (rnd_lab (st := st) h hl i).2 j z e g1 g2 g3 g5
theorem change_chain (h : FOk n f) {best : List Int} (hl : best.length = (plc n).length) : ∀ (k i : Nat), lab (itr n f st (k + 1) best) i ≠ lab (itr n f st k best) i →
    ∃ L : List Nat, L.Nodup ∧ L.length = k + 2 ∧ ∀ w ∈ L, w < (plc n).length ∧ 0 ≤ lab (itr n f st (k + 1) best) w ∧ lab (itr n f st (k + 1) best) w ≤ lab (itr n f st (k + 1) best) i
  | 0, i, hc => by
    have e1 : itr n f st (0 + 1) best = rnd n f st best := rfl
    rw [e1] at hc ⊢
    rcases (rnd_lab (st := st) h hl i).1 with e | ⟨j, z, e, g1, g2, g3, g4, g5⟩
    · exact absurd e hc
    · obtain ⟨q1, q2, _⟩ := via_spec h g3
      have hi := (leg_idx (List.mem_of_getElem? g1)).2
      have hu := (leg_idx (List.mem_of_getElem? g1)).1
      rw [g2] at hi
      have hm := rnd_mono (st := st) h hl q1
      refine ⟨[i, aI n z], ?_, rfl, fun w hw => ?_⟩
      · simp only [List.nodup_cons, List.mem_singleton, List.not_mem_nil, not_false_eq_true, List.nodup_nil, and_self, and_true]
        intro e'
        rw [← e'] at q1 q2
        unfold better at g5
        omega
      · simp only [List.mem_cons, List.not_mem_nil, or_false] at hw
        rcases hw with rfl | rfl
        · exact ⟨hi, by omega, Int.le_refl _⟩
        · exact ⟨hu, hm.1, by omega⟩
  | k + 1, i, hc => by
    rw [itr_succ (k + 1), itr_succ k] at hc
    obtain ⟨u, hu, u0, u1, u2⟩ := change_by h ((itr_len _ _).trans hl) hc
    rw [← itr_succ k] at hu u0 u1 u2
    obtain ⟨L, l1, l2, l3⟩ := change_chain h hl k u hu
    rw [itr_succ (k + 1)]
    have hlen : (itr n f st (k + 1) best).length = (plc n).length := by rw [itr_len]; exact hl
    refine ⟨i :: L, List.nodup_cons.2 ⟨fun hi => ?_, l1⟩, by simp [l2], fun w hw => ?_⟩
    · obtain ⟨_, b1, b2⟩ := l3 i hi
      unfold better at u2
      omega
    · rcases List.mem_cons.1 hw with rfl | hw
      · refine ⟨?_, by omega, Int.le_refl _⟩
        have : w < (rnd n f st (itr n f st (k + 1) best)).length := lab_pos (by omega)
        rwa [rnd_len, hlen] at this
      · obtain ⟨b0, b1, b2⟩ := l3 w hw
        have hm := rnd_mono (st := st) h hlen b1
        exact ⟨b0, hm.1, by omega⟩
theorem settled (h : FOk n f) {best : List Int} (hl : best.length = (plc n).length) {k : Nat} (hk : (plc n).length ≤ k + 1) : rnd n f st (itr n f st k best) = itr n f st k best := by
  refine lab_ext rnd_len fun i => ?_
  rcases Decidable.em (lab (rnd n f st (itr n f st k best)) i = lab (itr n f st k best) i) with e | e
  · exact e
  · exfalso
    rw [← itr_succ] at e
    obtain ⟨L, l1, l2, l3⟩ := change_chain h hl k i e
    have := nodup_bound _ L l1 fun w hw => (l3 w hw).1
    omega
/-- more rounds than places are as many as places -/
theorem itr_min (h : FOk n f) {best : List Int} (hl : best.length = (plc n).length) (m : Nat) : itr n f st (min m (plc n).length) best = itr n f st m best := by
  rcases Nat.le_total m (plc n).length with hm | hm
  · rw [Nat.min_eq_left hm]
  · rw [Nat.min_eq_right hm]
    obtain ⟨k, rfl⟩ : ∃ k, m = (plc n).length + k := ⟨m - (plc n).length, by omega⟩
    rw [itr_add, itr_fix (settled h hl (by omega))]
theorem rnd_le (h : FOk n f) {best : List Int} (hl : best.length = (plc n).length) (hb : ∀ i, lab best i ≤ 100000) (i : Nat) : lab (rnd n f st best) i ≤ 100000 := by
  rcases (rnd_lab (st := st) h hl i).1 with e | ⟨j, z, e, g1, g2, g3, g4, g5⟩
  · rw [e]; exact hb i
  · obtain ⟨q1, q2, q3, _⟩ := via_spec h g3; omega
theorem itr_le (h : FOk n f) : ∀ (m : Nat) {best : List Int}, best.length = (plc n).length → (∀ i, lab best i ≤ 100000) → ∀ i, lab (itr n f st m best) i ≤ 100000
  | 0, best, _, hb, i => hb i
  | m + 1, best, hl, hb, i => itr_le h m (rnd_len.trans hl) (rnd_le h hl hb) i
end
end Go.Vs
/- Arrivals: both texts give the same labels; when a place is reached. -/
namespace Go.Vs
open Go.IntWalk
theorem arr_l3 {fd : Fd} {n : Network} {f : Int → Int → Option Int} (hn : NetOk n) (hf : Find fd n f) {best : List Int} (hl : best.length = (plc n).length) (hb : ∀ i, lab best i ≤ 100000) {st : Nat} : ∀ (ls : List Leg) (k : Nat) (out : List Int) (ch : Bool), n.Legs.drop k = ls → out.length = (plc n).length →
    I_arrivals_l3 G.real TE.real n fd best (plc n) (st : Int) ls (k : Int) out ch = some (rnd1 n f st best ls (k : Int) out, ch || chg n f st best ls (k : Int) out)
  | [], k, out, ch, _, _ => by rw [I_arrivals_l3, rnd1, chg, Bool.or_false]
  | z :: ls, k, out, ch, hd, ho => by
    have hlen := hn.len
    have hk : k < n.Legs.length := by
      have := congrArg List.length hd
      simp at this; omega
    have hz : n.Legs[k]? = some z := by
      have : (n.Legs.drop k)[0]? = some z := by rw [hd]; rfl
      simpa using this
    have hd2 : n.Legs.drop (k + 1) = ls := by
      have := congrArg List.tail hd
      simpa using this
    have hm := List.mem_of_getElem? hz
    obtain ⟨ha, hbz⟩ := leg_idx hm
    have pl := plc_len n
    have e1 : ix (plc n) z.From = (aI n z : Int) := ix_of ((plc_mem n _).2 ⟨z, hm, .inl rfl⟩)
    have e2 : ix (plc n) z.To = (bI n z : Int) := ix_of ((plc_mem n _).2 ⟨z, hm, .inr rfl⟩)
    have hk1 : (k : Int) + 1 = ((k + 1 : Nat) : Int) := by omega
    rw [I_arrivals_l3, rnd1, chg]
    simp only [lP_eq, pAt_i (show (plc n).length ≤ 4194304 by omega), e1, e2, dlenx_I64, R_nat, Int.toNat_natCast, R_lt, R_add, R_eq, br_dec]
    rw [gd_true (by omega), gt_some (lab_get (l := best) (by omega)), w64 (n := (k : Int) + 1) (by omega) (by omega), hk1]
    have ih := fun o c ho => arr_l3 hn hf hl hb (st := st) ls (k + 1) o c hd2 ho
    by_cases h0 : lab best (aI n z) < 0
    · have hv : via n f st best z (k : Int) = none := by unfold via; rw [if_pos h0]
      rw [if_pos h0, hv]
      exact ih out ch ho
    · rw [if_neg h0, gd_true (by omega)]
      have hx := hb (aI n z)
      have hc := hn.change
      have er : I_readyAt G.real TE.real n (lab best (aI n z)) (decide ((aI n z : Int) = (st : Int))) = rdy n (lab best (aI n z)) (decide (aI n z = st)) := by
        unfold I_readyAt rdy
        simp only [R_add, br_dec]
        rw [w64 (by omega) (by omega)]
        by_cases hs : aI n z = st
        · rw [if_pos (by omega), if_pos (by simp [hs])]
        · rw [if_neg (by omega), if_neg (by simp [hs])]
      rw [er, hf.call, cl_some]
      cases hfv : f (k : Int) (rdy n (lab best (aI n z)) (decide (aI n z = st))) with
      | none =>
        have hv : via n f st best z (k : Int) = none := by unfold via; rw [if_neg h0, hfv]; rfl
        rw [hv]
        exact ih out ch ho
      | some d =>
        have hv : via n f st best z (k : Int) = some (enN n (k : Int) d) := by unfold via; rw [if_neg h0, hfv]; rfl
        rw [hv]
        obtain ⟨r1, r2, r3, r4⟩ := runs_ok (n := n) (by omega) (hf.ok hfv).1
        simp only [tbO, br_t]
        rw [gd_true (by omega), gt_some (lab_get (l := out) (by omega)), end_i hn r1 r2 r3 r4]
        simp only [cl_some]
        have ho2 : (out.set (bI n z) (enN n (k : Int) d)).length = (plc n).length := by simpa using ho
        by_cases h1 : lab out (bI n z) < 0
        · have hbt : better out (bI n z) (enN n (k : Int) d) := .inl h1
          rw [if_pos h1, gd_true (by omega), if_pos hbt, if_pos hbt, ih _ true ho2, Bool.true_or, Bool.or_true]
        · rw [if_neg h1, gd_true (by omega)]
          by_cases h2 : enN n (k : Int) d < lab out (bI n z)
          · have hbt : better out (bI n z) (enN n (k : Int) d) := .inr h2
            rw [if_pos h2, gd_true (by omega), if_pos hbt, if_pos hbt, ih _ true ho2, Bool.true_or, Bool.or_true]
          · have hbt : ¬ better out (bI n z) (enN n (k : Int) d) := by unfold better; omega
            rw [if_neg h2, if_neg hbt, if_neg hbt]
            exact ih out ch ho
theorem arr_l2 {fd : Fd} {n : Network} {f : Int → Int → Option Int} (hn : NetOk n) (hf : Find fd n f) {st : Nat} : ∀ (m : Nat) (best : List Int), best.length = (plc n).length → (∀ i, lab best i ≤ 100000) →
    I_arrivals_l2 G.real TE.real n fd (plc n) (st : Int) m best = some (itr n f st m best)
  | 0, best, _, _ => by rw [I_arrivals_l2]; rfl
  | m + 1, best, hl, hb => by
    have pl := plc_len n
    have hlen := hn.len
    have hok : FOk n f := ⟨hn, hf.ok⟩
    rw [I_arrivals_l2]
    simp only [lP_eq, List.nil_append]
    rw [gd_true (by simp; omega), show (0 : Int) = ((0 : Nat) : Int) from rfl, arr_l3 hn hf hl hb n.Legs 0 best false (by simp) hl, cl_some, Bool.false_or]
    cases hc : chg n f st best n.Legs ((0 : Nat) : Int) best with
    | true =>
      rw [br_t]
      exact arr_l2 hn hf m (rnd n f st best) (rnd_len.trans hl) (rnd_le hok hl hb)
    | false =>
      rw [br_f]
      have e : rnd n f st best = best := chg_false hc
      rw [show rnd1 n f st best n.Legs ((0 : Nat) : Int) best = rnd n f st best from rfl, itr_fix e, e]
theorem arr_l1 : ∀ (m : Nat) (w : List Int), w.length + m ≤ 1000000 → I_arrivals_l1 G.real TE.real m w = some (w ++ List.replicate m (-1))
  | 0, w, _ => by rw [I_arrivals_l1]; simp
  | m + 1, w, h => by
    rw [I_arrivals_l1]
    simp only [lP_eq]
    rw [gd_true (by simp; omega), arr_l1 m _ (by simp; omega), List.append_assoc]
    rfl
/-- the labels without any leg -/
def lab0 (n : Network) (st : Nat) (a : Int) : List Int := (List.replicate (plc n).length (-1)).set st (max a 0)
theorem lab0_len (n : Network) (st : Nat) (a : Int) : (lab0 n st a).length = (plc n).length := by unfold lab0; simp
theorem lab0_lab {n : Network} {st : Nat} (hst : st < (plc n).length) (a : Int) (i : Nat) : lab (lab0 n st a) i = if i = st then max a 0 else -1 := by
  unfold lab0
  rw [lab_set (by simpa using hst)]
  by_cases h : st = i
  · rw [if_pos h, if_pos h.symm]
  · rw [if_neg h, if_neg (fun e => h e.symm)]
    unfold lab
    rw [List.getD_eq_getElem?_getD, List.getElem?_replicate]
    split <;> rfl
theorem lab0_le {n : Network} {st : Nat} (hst : st < (plc n).length) {a : Int} (ha : a ≤ 100000) (i : Nat) : lab (lab0 n st a) i ≤ 100000 := by
  rw [lab0_lab hst]; split <;> omega
/-- what arrivals are: nothing, or rounds -/
def arrB (n : Network) (f : Int → Int → Option Int) (s : ByteArray) (a : Int) (m : Int) : List Int :=
  if s ∉ plc n ∨ 100000 < a ∨ m < 0 then [] else itr n f (ixN (plc n) s) m.toNat (lab0 n (ixN (plc n) s) a)
theorem arr_i {fd : Fd} {n : Network} {f : Int → Int → Option Int} (hn : NetOk n) (hf : Find fd n f) (s : ByteArray) (a : Int) {m : Int} (hm : m ≤ 9223372036854775807) :
    I_arrivals G.real TE.real n fd s a m = some (arrB n f s a m) := by
  have pl := plc_len n
  have hlen := hn.len
  unfold I_arrivals arrB
  rw [plc_i (by omega)]
  simp only [cl_some, lP_eq, pAt_i (show (plc n).length ≤ 4194304 by omega), R_lt, br_dec, dlenx_S, R_int, dlenx_I64, R_nat]
  by_cases h1 : s ∈ plc n
  · have hi := ixN_get h1
    rw [ix_of h1, if_neg (by omega)]
    by_cases h2 : 100000 < a
    · rw [if_pos h2, if_pos (by simp [h2])]
    · rw [if_neg h2]
      by_cases h3 : m < 0
      · rw [if_pos h3, if_pos (by simp [h3])]
      · rw [if_neg h3, if_neg (by simp [h1, h2, h3])]
        have cn : cntLt 0 ((plc n).length : Int) = (plc n).length := by unfold cntLt; omega
        have cm : cntLt 0 m = m.toNat := by unfold cntLt; omega
        rw [gd_true (by omega), cn, arr_l1 _ _ (by simp; omega), cl_some, List.nil_append, gd_true (by rw [List.length_replicate]; omega), Int.toNat_natCast, gt_some (lab_get (by rw [List.length_replicate]; exact hi.1)), gd_true hm, cm]
        have e : (List.replicate (plc n).length (-1)).set (ixN (plc n) s) (G.real.imax a 0) = lab0 n (ixN (plc n) s) a := rfl
        rw [e, arr_l2 hn hf _ _ (lab0_len _ _ _) (lab0_le hi.1 (by omega)), cl_some]
  · rw [if_pos (ix_neg.2 h1), if_pos (.inl h1)]
theorem first_l1 (a : Int) (st : Nat) : ∀ (ls : List ByteArray) (k : Nat) (w : List Int), k + ls.length ≤ 4194304 → w.length + ls.length ≤ 4194304 → S_l4First_l1 G.real TE.real (st : Int) a ls (k : Int) w = some (w ++ (List.range' k ls.length).map fun i => if i = st then max a 0 else -1)
  | [], k, w, _, _ => by rw [S_l4First_l1]; simp
  | z :: ls, k, w, h, h2 => by
    simp only [List.length_cons] at h h2
    have em : S_Max G.real TE.real a 0 = max a 0 := by
      unfold S_Max
      simp only [R_lt, br_dec]
      split <;> omega
    rw [S_l4First_l1]
    simp only [R_eq, br_dec, lP_eq, R_add, em]
    rw [w64 (by omega) (by omega), show (k : Int) + 1 = ((k + 1 : Nat) : Int) from by omega, gd_true (by simp; omega), gd_true (by simp; omega), first_l1 a st ls (k + 1) _ (by omega) (by simp; omega), first_l1 a st ls (k + 1) _ (by omega) (by simp; omega), List.length_cons, List.range'_succ, List.map_cons]
    by_cases hk : k = st
    · rw [if_pos (by omega), if_pos hk]; simp
    · rw [if_neg (by omega), if_neg hk]; simp
theorem first_s {n : Network} (hn : NetOk n) {st : Nat} (hst : st < (plc n).length) (a : Int) : S_l4First G.real TE.real (plc n) (st : Int) a = some (lab0 n st a) := by
  have pl := plc_len n
  have hlen := hn.len
  unfold S_l4First
  rw [lP_eq, show (0 : Int) = ((0 : Nat) : Int) from rfl, first_l1 a st (plc n) 0 [] (by omega) (by simp; omega), cl_some, List.nil_append]
  congr 1
  refine lab_ext (by rw [lab0_len]; simp) fun i => ?_
  rw [lab0_lab hst]
  unfold lab
  rw [List.getD_eq_getElem?_getD, List.getElem?_map]
  by_cases hi : i < (plc n).length
  · rw [List.getElem?_range' hi]; simp
  · rw [List.getElem?_eq_none (by simp; omega)]
    simp only [Option.map_none, Option.getD_none]
    rw [if_neg (by omega)]
theorem arrB_len {n : Network} {f : Int → Int → Option Int} {s : ByteArray} {a m : Int} (h1 : s ∈ plc n) (h2 : a ≤ 100000) (h3 : 0 ≤ m) : (arrB n f s a m).length = (plc n).length := by
  unfold arrB
  rw [if_neg (by simp [h1]; omega), itr_len, lab0_len]
end Go.Vs
/- The order of scans: both texts agree. -/
namespace Go.Vs
open Go.IntWalk
def cmpI (x y : Int) : Int := if x < y then -1 else if y < x then 1 else 0
theorem ints_eq (x y : Int) : I_compareInts G.real TE.real x y = cmpI x y := by
  unfold I_compareInts cmpI
  simp only [R_lt, br_dec]
def firstOf : List Int → Int
  | [] => 0
  | x :: l => if x = 0 then firstOf l else x
theorem first_eq (l : List Int) : I_first G.real TE.real l = firstOf l := by
  unfold I_first
  simp only [lP_eq]
  induction l with
  | nil => rfl
  | cons x l ih =>
    rw [I_first_l1, firstOf]
    simp only [R_eq, br_dec]
    by_cases h : x = 0
    · rw [if_pos h, if_pos h]; exact ih
    · rw [if_neg h, if_neg h]; rfl
end Go.Vs
/- Bookings: both texts say the same of which lists are right. -/
namespace Go.Vs
open Go.IntWalk
theorem load_l1 (t : Trip) : ∀ (l : List Booking) (v : Int), S_LoadOf_l1 G.real TE.real t l v = I_LoadOf_l1 G.real TE.real t l v
  | [], v => by rw [S_LoadOf_l1, I_LoadOf_l1]
  | z :: l, v => by rw [S_LoadOf_l1, I_LoadOf_l1, load_l1 t l, load_l1 t l]
theorem load_s (l : List Booking) (t : Trip) : S_LoadOf G.real TE.real l t = I_LoadOf G.real TE.real l t := by
  unfold S_LoadOf I_LoadOf
  rw [load_l1]
/-- which booking stands ahead -/
def beB (a b : Booking) : Bool := if a.Trip.Day = b.Trip.Day then (if a.Trip.Leg = b.Trip.Leg then decide (a.Thing < b.Thing) else decide (a.Trip.Leg < b.Trip.Leg)) else decide (a.Trip.Day < b.Trip.Day)
theorem be_s (a b : Booking) : S_l6Before G.real TE.real a b = beB a b := by
  unfold S_l6Before beB
  simp only [R_eq, R_lt, br_dec]
theorem be_i (a b : Booking) : I_compareBookings G.real TE.real a b = if beB a b = true then -1 else if a.Trip.Day = b.Trip.Day ∧ a.Trip.Leg = b.Trip.Leg ∧ a.Thing = b.Thing then 0 else 1 := by
  unfold I_compareBookings beB
  simp only [lP_eq, ints_eq, first_eq, firstOf, cmpI]
  by_cases h1 : a.Trip.Day = b.Trip.Day
  · by_cases h2 : a.Trip.Leg = b.Trip.Leg
    · by_cases h3 : a.Thing = b.Thing
      · simp [h1, h2, h3]
      · by_cases h4 : a.Thing < b.Thing
        · simp [h1, h2, h3, h4]
        · have : b.Thing < a.Thing := by omega
          simp [h1, h2, h3, h4, this]
    · by_cases h4 : a.Trip.Leg < b.Trip.Leg
      · simp [h1, h2, h4]
      · have : b.Trip.Leg < a.Trip.Leg := by omega
        simp [h1, h2, h4, this]
  · by_cases h4 : a.Trip.Day < b.Trip.Day
    · simp [h1, h4]
    · have : b.Trip.Day < a.Trip.Day := by omega
      simp [h1, h4, this]
theorem be_neg (a b : Booking) : (0 : Int) ≤ I_compareBookings G.real TE.real a b ↔ beB a b = false := by
  rw [be_i]
  cases beB a b with
  | true => simp
  | false => simp; split <;> omega
def prB (l : List Booking) (k : Nat) (z : Booking) : Bool := match k with | 0 => true | j + 1 => match l[j]? with | some x => beB x z | none => true
/-- what a booking by itself must be -/
def bk1 (n : Network) (l : List Booking) (k : Nat) (z : Booking) : Bool :=
  prB l k z && (runsB n z.Trip.Leg z.Trip.Day && (decide (1 ≤ z.Thing ∧ z.Thing ≤ 9999) && decide (1 ≤ z.Weight ∧ z.Weight ≤ 1000000)))
def bkA (n : Network) (l : List Booking) : List Booking → Nat → Bool
  | [], _ => true
  | z :: ls, k => bk1 n l k z && bkA n l ls (k + 1)
def bkW (n : Network) (l : List Booking) (z : Booking) : Bool := decide (I_LoadOf G.real TE.real l z.Trip ≤ (lgOf n z.Trip.Leg).Room)
theorem bk_s1 {n : Network} (hn : n.Legs.length ≤ 1048576) (l : List Booking) (hl : l.length ≤ 120) : ∀ (ls : List Booking) (k : Nat), l.drop k = ls →
    S_AreBookings_l1 G.real TE.real n l ls (k : Int) = some (if bkA n l ls k = true then .out () else .ret false)
  | [], k, _ => by rw [S_AreBookings_l1, bkA]; rfl
  | z :: ls, k, hd => by
    have hk : k < l.length := by
      have := congrArg List.length hd
      simp at this; omega
    have hd2 : l.drop (k + 1) = ls := by
      have := congrArg List.tail hd
      simpa using this
    rw [S_AreBookings_l1, bkA, bk1, runs_s hn, cl_some]
    simp only [lP_eq, l1In_r, R_lt, R_add, R_sub, R_nat, be_s]
    rw [w64 (n := (k : Int) + 1) (by omega) (by omega), w64 (n := (k : Int) - 1) (by omega) (by omega), show (k : Int) + 1 = ((k + 1 : Nat) : Int) from by omega, bk_s1 hn l hl ls (k + 1) hd2]
    cases runsB n z.Trip.Leg z.Trip.Day with
    | false => simp
    | true =>
      simp only [br_dec, br_t, Bool.true_and]
      by_cases h1 : 1 ≤ z.Thing ∧ z.Thing ≤ 9999
      · rw [if_pos h1, decide_eq_true h1, Bool.true_and]
        by_cases h2 : 1 ≤ z.Weight ∧ z.Weight ≤ 1000000
        · rw [if_pos h2, decide_eq_true h2, Bool.and_true]
          cases k with
          | zero => rw [if_neg (by omega)]; simp [prB]
          | succ j =>
            have hj : l[Int.toNat (((j + 1 : Nat) : Int) - 1)]? = some (l[j]'(by omega)) := by
              rw [show (((j + 1 : Nat) : Int) - 1) = ((j : Nat) : Int) from by omega, Int.toNat_natCast]
              exact List.getElem?_eq_getElem (by omega)
            rw [if_pos (by omega), gd_true (by omega), gt_some hj]
            rw [show prB l (j + 1) z = beB (l[j]'(by omega)) z from by
              show (match l[j]? with | some x => beB x z | none => true) = _
              rw [List.getElem?_eq_getElem (by omega)]]
            rw [show (Booking.mk (l[j]'(by omega)).Thing (Trip.mk (l[j]'(by omega)).Trip.Leg (l[j]'(by omega)).Trip.Day) (l[j]'(by omega)).Weight) = l[j]'(by omega) from rfl]
            cases beB (l[j]'(by omega)) z with
            | true => rw [br_t, Bool.true_and]
            | false => rw [br_f, Bool.false_and]; rfl
        · rw [if_neg h2, decide_eq_false h2, Bool.and_false, Bool.false_and]; rfl
      · rw [if_neg h1, decide_eq_false h1, Bool.false_and, Bool.and_false, Bool.false_and]; rfl
theorem bkA_leg {n : Network} {l : List Booking} (hn : n.Legs.length ≤ 1048576) : ∀ {ls : List Booking} {k : Nat}, bkA n l ls k = true → ∀ z ∈ ls, 0 ≤ z.Trip.Leg ∧ z.Trip.Leg < n.Legs.length
  | z :: ls, k, h, y, hy => by
    unfold bkA bk1 at h
    simp only [Bool.and_eq_true] at h
    rcases List.mem_cons.1 hy with rfl | hy
    · have := runs_ok hn h.1.2.1; omega
    · exact bkA_leg hn h.2 y hy
theorem bk_s2 {n : Network} (l : List Booking) : ∀ (ls : List Booking), (∀ z ∈ ls, 0 ≤ z.Trip.Leg ∧ z.Trip.Leg < n.Legs.length) →
    S_AreBookings_l2 G.real TE.real n l ls = some (if ls.all (bkW n l) = true then .out () else .ret false)
  | [], _ => by rw [S_AreBookings_l2]; rfl
  | z :: ls, h => by
    have hz := h z (by simp)
    rw [S_AreBookings_l2, bk_s2 l ls (fun y hy => h y (by simp [hy]))]
    simp only [lP_eq, load_s, R_nat, R_lt, br_dec]
    rw [gd_true hz.1, gt_some (lg_get hz.1 hz.2), List.all_cons]
    unfold bkW
    rw [show (Trip.mk z.Trip.Leg z.Trip.Day) = z.Trip from rfl]
    by_cases hc : I_LoadOf G.real TE.real l z.Trip ≤ (lgOf n z.Trip.Leg).Room
    · rw [if_neg (by omega), decide_eq_true hc, Bool.true_and]
    · rw [if_pos (by omega), decide_eq_false hc, Bool.false_and]; rfl
def bkB (n : Network) (l : List Booking) : Bool := netB n && (decide (l.length ≤ 120) && (bkA n l l 0 && l.all (bkW n l)))
theorem bk_s {n : Network} (ht : n.tot ≤ 1048576) (l : List Booking) (hl : l.length ≤ 1048576) : S_AreBookings G.real TE.real n l = some (bkB n l) := by
  have hn := tot_len ht
  unfold S_AreBookings bkB
  rw [net_s ht, cl_some]
  cases netB n with
  | false => rfl
  | true =>
    rw [br_t, Bool.true_and, llen_Booking rfl rfl, R_lt, br_dec]
    by_cases h : l.length ≤ 120
    · rw [if_neg (by omega), decide_eq_true h, Bool.true_and, show (0 : Int) = ((0 : Nat) : Int) from rfl, bk_s1 hn l h l 0 (by simp), cl_some]
      cases ha : bkA n l l 0 with
      | false => rfl
      | true =>
        rw [if_pos rfl, lr_out, bk_s2 l l (bkA_leg hn ha), cl_some, Bool.true_and]
        cases l.all (bkW n l) <;> rfl
    · rw [if_pos (by omega), decide_eq_false h, Bool.false_and]
theorem bk_i1 {n : Network} (ht : n.tot ≤ 1048576) (hb : netB n = true) (l : List Booking) (hl : l.length ≤ 120) : ∀ (ls : List Booking) (k : Nat), l.drop k = ls →
    I_AreBookings_l1 G.real TE.real n l ls (k : Int) = some (if (bkA n l ls k && ls.all (bkW n l)) = true then .out () else .ret false)
  | [], k, _ => by rw [I_AreBookings_l1, bkA]; rfl
  | z :: ls, k, hd => by
    have hn := tot_len ht
    have hk : k < l.length := by
      have := congrArg List.length hd
      simp at this; omega
    have hd2 : l.drop (k + 1) = ls := by
      have := congrArg List.tail hd
      simpa using this
    rw [I_AreBookings_l1, bkA, bk1, trip_i ht, cl_some]
    simp only [lP_eq, within_r, R_lt, R_le, R_add, R_sub, R_nat]
    rw [w64 (n := (k : Int) + 1) (by omega) (by omega), w64 (n := (k : Int) - 1) (by omega) (by omega), show (k : Int) + 1 = ((k + 1 : Nat) : Int) from by omega, bk_i1 ht hb l hl ls (k + 1) hd2]
    rw [show tripB n (Trip.mk z.Trip.Leg z.Trip.Day) = runsB n z.Trip.Leg z.Trip.Day from by unfold tripB; rw [hb, Bool.true_and]]
    have core : ∀ pb : Bool, (if pb = true then
        (br (runsB n z.Trip.Leg z.Trip.Day) (br (decide (1 ≤ z.Thing ∧ z.Thing ≤ 9999)) (br (decide (1 ≤ z.Weight ∧ z.Weight ≤ 1000000))
          (gd ((0 : Int) ≤ z.Trip.Leg) <| gt n.Legs z.Trip.Leg.toNat fun x8 => br (decide (x8.Room < I_LoadOf G.real TE.real l (Trip.mk z.Trip.Leg z.Trip.Day))) (some (LR.ret false))
            (some (if (bkA n l ls (k + 1) && ls.all (bkW n l)) = true then LR.out () else LR.ret false)))
          (some (LR.ret false))) (some (LR.ret false))) (some (LR.ret false)))
        else some (LR.ret false)) =
        some (if ((pb && (runsB n z.Trip.Leg z.Trip.Day && (decide (1 ≤ z.Thing ∧ z.Thing ≤ 9999) && decide (1 ≤ z.Weight ∧ z.Weight ≤ 1000000))) && bkA n l ls (k + 1)) && (z :: ls).all (bkW n l)) = true then LR.out () else LR.ret false) := by
      intro pb
      cases pb with
      | false => rfl
      | true =>
        rw [if_pos rfl, Bool.true_and]
        cases hr : runsB n z.Trip.Leg z.Trip.Day with
        | false => rfl
        | true =>
          obtain ⟨r1, r2, r3, r4⟩ := runs_ok hn hr
          rw [br_t, Bool.true_and, br_dec, br_dec]
          by_cases h1 : 1 ≤ z.Thing ∧ z.Thing ≤ 9999
          · rw [if_pos h1, decide_eq_true h1, Bool.true_and]
            by_cases h2 : 1 ≤ z.Weight ∧ z.Weight ≤ 1000000
            · rw [if_pos h2, decide_eq_true h2, Bool.true_and, gd_true r1, gt_some (lg_get r1 r2), List.all_cons, br_dec]
              have hw : bkW n l z = decide (I_LoadOf G.real TE.real l (Trip.mk z.Trip.Leg z.Trip.Day) ≤ (lgOf n z.Trip.Leg).Room) := rfl
              rw [hw]
              by_cases hc : I_LoadOf G.real TE.real l (Trip.mk z.Trip.Leg z.Trip.Day) ≤ (lgOf n z.Trip.Leg).Room
              · rw [if_neg (by omega), decide_eq_true hc, Bool.true_and]
              · rw [if_pos (by omega), decide_eq_false hc, Bool.false_and, Bool.and_false]; rfl
            · rw [if_neg h2, decide_eq_false h2]; simp
          · rw [if_neg h1, decide_eq_false h1]; simp
    cases k with
    | zero =>
      rw [br_dec, if_neg (by omega)]
      have := core true
      rw [if_pos rfl] at this
      exact this
    | succ j =>
      have hj : l[Int.toNat (((j + 1 : Nat) : Int) - 1)]? = some (l[j]'(by omega)) := by
        rw [show (((j + 1 : Nat) : Int) - 1) = ((j : Nat) : Int) from by omega, Int.toNat_natCast]
        exact List.getElem?_eq_getElem (by omega)
      rw [br_dec, if_pos (by omega), gd_true (by omega), gt_some hj]
      rw [show prB l (j + 1) z = beB (l[j]'(by omega)) z from by
        show (match l[j]? with | some x => beB x z | none => true) = _
        rw [List.getElem?_eq_getElem (by omega)]]
      rw [show (Booking.mk (l[j]'(by omega)).Thing (Trip.mk (l[j]'(by omega)).Trip.Leg (l[j]'(by omega)).Trip.Day) (l[j]'(by omega)).Weight) = l[j]'(by omega) from rfl, show (Booking.mk z.Thing (Trip.mk z.Trip.Leg z.Trip.Day) z.Weight) = z from rfl]
      have := core (beB (l[j]'(by omega)) z)
      rw [← this]
      cases hbe : beB (l[j]'(by omega)) z with
      | true =>
        rw [br_dec, if_neg (by rw [be_neg, hbe]; simp), if_pos rfl]
      | false =>
        rw [br_dec, if_pos ((be_neg _ _).2 hbe), if_neg (by simp)]
theorem bk_i {n : Network} (ht : n.tot ≤ 1048576) (l : List Booking) (hl : l.length ≤ 1048576) : I_AreBookings G.real TE.real n l = some (bkB n l) := by
  unfold I_AreBookings bkB
  rw [net_i ht, cl_some]
  cases hb : netB n with
  | false => rfl
  | true =>
    rw [br_t, Bool.true_and, llen_Booking rfl rfl, R_lt, br_dec]
    by_cases h : l.length ≤ 120
    · rw [if_neg (by omega), decide_eq_true h, Bool.true_and, show (0 : Int) = ((0 : Nat) : Int) from rfl, bk_i1 ht hb l h l 0 (by simp), cl_some]
      cases (bkA n l l 0 && l.all (bkW n l)) <;> rfl
    · rw [if_pos (by omega), decide_eq_false h, Bool.false_and]
end Go.Vs
/- The finder of free trips. -/
namespace Go.Vs
open Go.IntWalk
theorem hasT_l1 (t : Trip) : ∀ (l : List Trip), S_l6Closed_l1 G.real TE.real t l = I_hasTrip_l1 G.real TE.real t l
  | [] => by rw [S_l6Closed_l1, I_hasTrip_l1]
  | z :: l => by rw [S_l6Closed_l1, I_hasTrip_l1, hasT_l1 t l]
theorem hasT_s (l : List Trip) (t : Trip) : S_l6Closed G.real TE.real l t = I_hasTrip G.real TE.real l t := by
  unfold S_l6Closed I_hasTrip
  rw [hasT_l1]
/-- what room a trip has left -/
def rmN (n : Network) (l : List Booking) (leg d : Int) : Int := G.real.wrap .i64 (G.real.sub (lgOf n leg).Room (I_LoadOf G.real TE.real l ⟨leg, d⟩))
def pF (n : Network) (c : List Trip) (l : List Booking) (w leg at_ : Int) (d : Int) : Bool :=
  pN n leg at_ d && (!I_hasTrip G.real TE.real c ⟨leg, d⟩ && decide (w ≤ rmN n l leg d))
theorem free_l1 {n : Network} (hn : NetOk n) {c : List Trip} {b : List Booking} {w : Int} {l : Int} (at_ : Int) : ∀ (m : Nat) (v : Int), 0 ≤ v → v + m ≤ 1000 → I_freeOf_1_l1 G.real TE.real l at_ n c b w m v = some (match fdD (pF n c b w l at_) m v with | some d => .ret (⟨l, d⟩, true) | none => .out ())
  | 0, v, _, _ => by rw [I_freeOf_1_l1, fdD]
  | m + 1, v, h0, h1 => by
    have hl : n.Legs.length ≤ 1048576 := by have := hn.len; omega
    rw [I_freeOf_1_l1, fdD, runs_i hl]
    simp only [cl_some, R_add, R_le, br_dec, lP_eq]
    rw [w64 (by omega) (by omega), free_l1 hn at_ m (v + 1) (by omega) (by omega)]
    unfold pF pN
    cases hr : runsB n l v with
    | false => rfl
    | true =>
      obtain ⟨r1, r2, r3, r4⟩ := runs_ok hl hr
      rw [br_t, start_i hn r1 r2 r3 r4, cl_some]
      by_cases hc : at_ ≤ stN n l v
      · rw [if_pos hc, decide_eq_true hc, Bool.true_and, Bool.true_and]
        cases I_hasTrip G.real TE.real c ⟨l, v⟩ with
        | true => rfl
        | false =>
          rw [br_f, gd_true r1, R_nat, gt_some (lg_get r1 r2), Bool.not_false, Bool.true_and]
          by_cases hw : w ≤ rmN n b l v
          · rw [if_pos (by exact hw), decide_eq_true hw]; rfl
          · rw [if_neg (by exact hw), decide_eq_false hw]; rfl
      · rw [if_neg hc, decide_eq_false hc]; rfl
theorem free_s1 {n : Network} (hn : NetOk n) {c : List Trip} {b : List Booking} {w : Int} {l : Int} (at_ : Int) : ∀ (m : Nat) (v : Int), 0 ≤ v → v + m ≤ 1000 → S_l6Next_l1 G.real TE.real n b c l at_ w m v = some (match fdD (pF n c b w l at_) m v with | some d => .ret d | none => .out ())
  | 0, v, _, _ => by rw [S_l6Next_l1, fdD]
  | m + 1, v, h0, h1 => by
    have hl : n.Legs.length ≤ 1048576 := by have := hn.len; omega
    rw [S_l6Next_l1, fdD, runs_s hl]
    simp only [cl_some, R_add, R_le, br_dec, lP_eq, hasT_s, load_s]
    rw [w64 (by omega) (by omega), free_s1 hn at_ m (v + 1) (by omega) (by omega)]
    unfold pF pN
    cases hr : runsB n l v with
    | false => rfl
    | true =>
      obtain ⟨r1, r2, r3, r4⟩ := runs_ok hl hr
      rw [br_t, start_s hn r1 r2 r3 r4, cl_some]
      by_cases hc : at_ ≤ stN n l v
      · rw [if_pos hc, decide_eq_true hc, Bool.true_and, Bool.true_and]
        cases I_hasTrip G.real TE.real c ⟨l, v⟩ with
        | true => rfl
        | false =>
          rw [br_f, gd_true r1, R_nat, gt_some (lg_get r1 r2), Bool.not_false, Bool.true_and]
          by_cases hw : w ≤ rmN n b l v
          · rw [if_pos (by exact hw), decide_eq_true hw]; rfl
          · rw [if_neg (by exact hw), decide_eq_false hw]; rfl
      · rw [if_neg hc, decide_eq_false hc]; rfl
def fF (n : Network) (c : List Trip) (b : List Booking) (w l a : Int) : Option Int := fdD (pF n c b w l a) 61 0
theorem free_s {n : Network} (hn : NetOk n) (c : List Trip) (b : List Booking) (w l at_ : Int) : S_l6Next G.real TE.real n b c l at_ w = some (dyO (fF n c b w l at_)) := by
  unfold S_l6Next fF
  rw [show cntLe 0 60 = 61 from rfl, free_s1 hn at_ 61 0 (by omega) (by omega), cl_some]
  cases fdD (pF n c b w l at_) 61 0 <;> rfl
theorem find_free {n : Network} (hn : NetOk n) (c : List Trip) (b : List Booking) (w : Int) : Find (.I_freeOf_1 n c b w) n (fF n c b w) := by
  refine ⟨fun l a => ?_, fun {l a d} h => ?_⟩
  · show I_freeOf_1 G.real TE.real l a n c b w = _
    unfold I_freeOf_1 fF
    rw [show cntLe 0 60 = 61 from rfl, free_l1 hn a 61 0 (by omega) (by omega), cl_some]
    cases fdD (pF n c b w l a) 61 0 <;> rfl
  · obtain ⟨h1, _, _⟩ := fdD_spec h
    unfold pF pN at h1
    simp only [Bool.and_eq_true, decide_eq_true_eq] at h1
    exact h1.1
end Go.Vs
/- BestFree: both texts give the same labels. -/
namespace Go.Vs
open Go.IntWalk
theorem rnd_f {n : Network} {c : List Trip} {b : List Booking} {w : Int} {f : Int → Int → Option Int} (hn : NetOk n) (hf : f = fF n c b w) {best : List Int} (hl : best.length = (plc n).length) (hb : ∀ i, lab best i ≤ 100000) {st : Nat} : ∀ (ls : List Leg) (k : Nat) (out : List Int), n.Legs.drop k = ls → out.length = (plc n).length →
    S_l6Round_l1 G.real TE.real n b c w (plc n) best (st : Int) ls (k : Int) out = some (rnd1 n f st best ls (k : Int) out)
  | [], k, out, _, _ => by rw [S_l6Round_l1, rnd1]
  | z :: ls, k, out, hd, ho => by
    have hlen := hn.len
    have hk : k < n.Legs.length := by
      have := congrArg List.length hd
      simp at this; omega
    have hz : n.Legs[k]? = some z := by
      have : (n.Legs.drop k)[0]? = some z := by rw [hd]; rfl
      simpa using this
    have hd2 : n.Legs.drop (k + 1) = ls := by
      have := congrArg List.tail hd
      simpa using this
    have hm := List.mem_of_getElem? hz
    obtain ⟨ha, hbz⟩ := leg_idx hm
    have pl := plc_len n
    have e1 : ix (plc n) z.From = (aI n z : Int) := ix_of ((plc_mem n _).2 ⟨z, hm, .inl rfl⟩)
    have e2 : ix (plc n) z.To = (bI n z : Int) := ix_of ((plc_mem n _).2 ⟨z, hm, .inr rfl⟩)
    have hk1 : (k : Int) + 1 = ((k + 1 : Nat) : Int) := by omega
    rw [S_l6Round_l1, rnd1]
    simp only [lP_eq, pAt_s (show (plc n).length ≤ 4194304 by omega), e1, e2, dlenx_I64, R_nat, Int.toNat_natCast, R_lt, R_add, R_eq, br_dec]
    rw [gd_true (by omega), gt_some (lab_get (l := best) (by omega)), w64 (n := (k : Int) + 1) (by omega) (by omega), hk1]
    have ih := fun o ho => rnd_f hn hf hl hb (st := st) ls (k + 1) o hd2 ho
    by_cases h0 : lab best (aI n z) < 0
    · have hv : via n f st best z (k : Int) = none := by unfold via; rw [if_pos h0]
      rw [if_pos h0, hv]
      exact ih out ho
    · rw [if_neg h0, gd_true (by omega)]
      have hx := hb (aI n z)
      have hc := hn.change
      have er : S_l4Ready G.real TE.real n (lab best (aI n z)) (decide ((aI n z : Int) = (st : Int))) = rdy n (lab best (aI n z)) (decide (aI n z = st)) := by
        unfold S_l4Ready rdy
        simp only [R_add, br_dec]
        rw [w64 (by omega) (by omega)]
        by_cases hs : aI n z = st
        · rw [if_pos (by omega), if_pos (by simp [hs])]
        · rw [if_neg (by omega), if_neg (by simp [hs])]
      rw [er, free_s hn, ← hf, cl_some]
      cases hfv : f (k : Int) (rdy n (lab best (aI n z)) (decide (aI n z = st))) with
      | none =>
        have hv : via n f st best z (k : Int) = none := by unfold via; rw [if_neg h0, hfv]; rfl
        rw [hv, if_pos (show dyO none < 0 by show (-1 : Int) < 0; omega)]
        exact ih out ho
      | some d =>
        have hv : via n f st best z (k : Int) = some (enN n (k : Int) d) := by unfold via; rw [if_neg h0, hfv]; rfl
        rw [hv]
        show _ = some (if better out (bI n z) (enN n (k : Int) d) then rnd1 n f st best ls ((k + 1 : Nat) : Int) (out.set (bI n z) (enN n (k : Int) d)) else rnd1 n f st best ls ((k + 1 : Nat) : Int) out)
        obtain ⟨r1, r2, r3, r4⟩ := runs_ok (n := n) (by omega) (((find_free hn c b w).ok (by rw [hf] at hfv; exact hfv)).1)
        rw [if_neg (show ¬ dyO (some d) < 0 by show ¬ d < 0; omega), show dyO (some d) = d from rfl, end_s hn r1 r2 r3 r4, cl_some, gd_true (by omega), gt_some (lab_get (l := out) (by omega))]
        have ho2 : (out.set (bI n z) (enN n (k : Int) d)).length = (plc n).length := by simpa using ho
        by_cases h1 : lab out (bI n z) < 0
        · have hbt : better out (bI n z) (enN n (k : Int) d) := .inl h1
          rw [if_pos h1, gd_true (by omega), if_pos hbt, ih _ ho2]
        · rw [if_neg h1, gd_true (by omega)]
          by_cases h2 : enN n (k : Int) d < lab out (bI n z)
          · have hbt : better out (bI n z) (enN n (k : Int) d) := .inr h2
            rw [if_pos h2, gd_true (by omega), if_pos hbt, ih _ ho2]
          · have hbt : ¬ better out (bI n z) (enN n (k : Int) d) := by unfold better; omega
            rw [if_neg h2, if_neg hbt]
            exact ih out ho
theorem best_f {n : Network} {c : List Trip} {b : List Booking} {w : Int} {f : Int → Int → Option Int} (hn : NetOk n) (hf : f = fF n c b w) {st : Nat} : ∀ (m k : Nat) (best : List Int), best.length = (plc n).length → (∀ i, lab best i ≤ 100000) →
    S_BestFree_l1 G.real TE.real n b c w (plc n) (st : Int) m (k : Int) best = some (itr n f st (min m ((plc n).length - k)) best)
  | 0, k, best, _, _ => by rw [S_BestFree_l1, Nat.zero_min]; rfl
  | m + 1, k, best, hl, hb => by
    have pl := plc_len n
    have hlen := hn.len
    have hok : FOk n f := ⟨hn, by rw [hf]; exact (find_free hn c b w).ok⟩
    rw [S_BestFree_l1]
    simp only [R_lt, R_int, dlenx_S, br_dec, R_add]
    by_cases hk : k < (plc n).length
    · rw [if_pos (by omega)]
      unfold S_l6Round S_l1Ints
      simp only [lP_eq, List.nil_append]
      rw [gd_true (by simp; omega), cl_some, show (0 : Int) = ((0 : Nat) : Int) from rfl, rnd_f hn hf hl hb n.Legs 0 best (by simp) hl]
      simp only [cl_some]
      rw [w64 (by omega) (by omega), show (k : Int) + 1 = ((k + 1 : Nat) : Int) from by omega]
      have := best_f hn hf (st := st) m (k + 1) (rnd n f st best) (rnd_len.trans hl) (rnd_le hok hl hb)
      rw [show rnd1 n f st best n.Legs ((0 : Nat) : Int) best = rnd n f st best from rfl, this, show min (m + 1) ((plc n).length - k) = min m ((plc n).length - (k + 1)) + 1 by omega]
      rfl
    · rw [if_neg (by omega), show min (m + 1) ((plc n).length - k) = 0 by omega]
      rfl
def bfL (n : Network) (l : List Booking) (c : List Trip) (s : ByteArray) (a w m : Int) : List Int :=
  if bkB n l = true ∧ 1 ≤ w then arrB n (fF n c l w) s a m else []
theorem bk_net {n : Network} {l : List Booking} (h : bkB n l = true) : netB n = true := by
  unfold bkB at h
  simp only [Bool.and_eq_true] at h
  exact h.1
theorem bfr_s {n : Network} (ht : n.tot ≤ 1048576) (l : List Booking) (hl : l.length ≤ 1048576) (c : List Trip) (s : ByteArray) (a w : Int) {m : Int} (hm : m ≤ 9223372036854775807) : S_BestFree G.real TE.real n l c s a w m = some (bfL n l c s a w m) := by
  have pl := plc_len n
  have hlen := tot_len ht
  unfold S_BestFree bfL
  rw [plc_s (by omega), bk_s ht l hl]
  simp only [cl_some, lP_eq, pAt_s (show (plc n).length ≤ 4194304 by omega), R_lt, br_dec]
  cases hb : bkB n l with
  | false => rw [br_f, if_neg (by simp)]
  | true =>
    have hn := net_ok ht (bk_net hb)
    have hlen := hn.len
    have hok : FOk n (fF n c l w) := ⟨hn, (find_free hn c l w).ok⟩
    rw [br_t]
    unfold arrB
    by_cases h1 : s ∈ plc n
    · have hi := ixN_get h1
      rw [ix_of h1, if_neg (by omega)]
      by_cases h2 : 100000 < a
      · rw [if_pos h2]; split <;> simp [h2]
      · rw [if_neg h2]
        by_cases h4 : 1 ≤ w
        · rw [if_neg (by omega), if_pos (c := true = true ∧ 1 ≤ w) ⟨rfl, h4⟩]
          by_cases h3 : m < 0
          · rw [if_pos h3, if_pos (by simp [h3])]
          · rw [if_neg h3, if_neg (by simp [h1, h2, h3])]
            have cm : cntLt 0 m = m.toNat := by unfold cntLt; omega
            rw [first_s hn hi.1, cl_some, gd_true hm, cm, show (0 : Int) = ((0 : Nat) : Int) from rfl, best_f hn rfl m.toNat 0 _ (lab0_len _ _ _) (lab0_le hi.1 (by omega)), cl_some, Nat.sub_zero, itr_min hok (lab0_len _ _ _)]
        · rw [if_pos (by omega), if_neg (fun h => h4 h.2)]
    · rw [if_pos (ix_neg.2 h1)]; split
      · rw [if_pos (.inl h1)]
      · rfl
theorem bfr_i {n : Network} (ht : n.tot ≤ 1048576) (l : List Booking) (hl : l.length ≤ 1048576) (c : List Trip) (s : ByteArray) (a w : Int) {m : Int} (hm : m ≤ 9223372036854775807) : I_BestFree G.real TE.real n l c s a w m = some (bfL n l c s a w m) := by
  unfold I_BestFree bfL I_freeOf
  rw [bk_i ht l hl]
  simp only [cl_some, lP_eq, R_lt, br_dec]
  cases hb : bkB n l with
  | false => rw [br_f, if_neg (by simp)]
  | true =>
    have hn := net_ok ht (bk_net hb)
    rw [br_t]
    by_cases h4 : 1 ≤ w
    · rw [if_neg (by omega), if_pos (c := true = true ∧ 1 ≤ w) ⟨rfl, h4⟩, arr_i hn (find_free hn c l w) s a hm, cl_some]
    · rw [if_pos (by omega), if_neg (fun h => h4 h.2)]
end Go.Vs
