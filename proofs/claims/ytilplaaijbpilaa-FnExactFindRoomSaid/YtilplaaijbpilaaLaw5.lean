/- The law FnExactFindRoom holds: whatever its arguments, the call returns true and leaves them as they were. No condition. -/
import Derived.Test.YtilplaaijbpilaaWays
import Derived.Test.YtilplaaijbpilaaLaf
import Derived.Test.YtilplaaijbpilaaHb
import Derived.Test.YtilplaaijbpilaaMark
import Derived.Test.YtilplaaijbpilaaIs
import Derived.Test.YtilplaaijbpilaaOrder
import Derived.Test.YtilplaaijbpilaaRows
set_option linter.unusedVariables false
set_option linter.unusedSimpArgs false
set_option linter.unusedSectionVars false
/- FindRoom: both texts find the same way. -/
namespace Go.Vs
open Go.IntWalk
theorem ixN_inj {l : List ByteArray} {x y : ByteArray} (hx : x ∈ l) (hy : y ∈ l) (h : ixN l x = ixN l y) : x = y := by
  have h1 := (ixN_get hx).2
  have h2 := (ixN_get hy).2
  rw [h, h2] at h1
  exact (Option.some.inj h1).symm
section
variable {n : Network} {f : Int → Int → Option Int} {st : Nat}
/-- the day on which a leg is taken -/
def dyv (n : Network) (f : Int → Int → Option Int) (st : Nat) (best : List Int) (z : Leg) (v : Int) : Option Int :=
  if lab best (aI n z) < 0 then none else f v (rdy n (lab best (aI n z)) (decide (aI n z = st)))
theorem via_dyv (best : List Int) (z : Leg) (v : Int) : via n f st best z v = (dyv n f st best z v).map (enN n v) := by
  unfold via dyv
  split <;> rfl
/-- the first leg that ends at a place at a minute -/
def stF (n : Network) (f : Int → Int → Option Int) (st : Nat) (best : List Int) (x : ByteArray) (e : Int) : List Leg → Int → Option Trip
  | [], _ => none
  | z :: ls, v => if z.To = x then (match dyv n f st best z v with | some d => if enN n v d = e then some ⟨v, d⟩ else stF n f st best x e ls (v + 1) | none => stF n f st best x e ls (v + 1)) else stF n f st best x e ls (v + 1)
theorem stF_has {best : List Int} {x : ByteArray} {e : Int} : ∀ (ls : List Leg) (k : Nat), n.Legs.drop k = ls → (∃ (j : Nat) (z : Leg), k ≤ j ∧ n.Legs[j]? = some z ∧ z.To = x ∧ via n f st best z (j : Int) = some e) →
    ∃ t, stF n f st best x e ls (k : Int) = some t
  | [], k, hd, h => by
    obtain ⟨j, z, h1, h2, _⟩ := h
    have := List.drop_eq_nil_iff.1 hd
    rw [List.getElem?_eq_none (by omega)] at h2
    cases h2
  | z :: ls, k, hd, h => by
    have hz : n.Legs[k]? = some z := by
      have : (n.Legs.drop k)[0]? = some z := by rw [hd]; rfl
      simpa using this
    have hd2 : n.Legs.drop (k + 1) = ls := by
      have := congrArg List.tail hd
      simpa using this
    have hk1 : (k : Int) + 1 = ((k + 1 : Nat) : Int) := by omega
    obtain ⟨j, y, h1, h2, h3, h4⟩ := h
    have ih := fun hj => stF_has (best := best) (x := x) (e := e) ls (k + 1) hd2 ⟨j, y, hj, h2, h3, h4⟩
    rw [stF, hk1]
    by_cases hj : j = k
    · subst hj
      rw [hz] at h2
      cases h2
      rw [if_pos h3]
      rw [via_dyv] at h4
      cases hdv : dyv n f st best z (j : Int) with
      | none => rw [hdv] at h4; cases h4
      | some d =>
        rw [hdv] at h4
        have h5 : enN n (j : Int) d = e := Option.some.inj h4
        exact ⟨⟨(j : Int), d⟩, if_pos h5⟩
    · have ih := ih (by omega)
      split
      · split
        · split
          · exact ⟨_, rfl⟩
          · exact ih
        · exact ih
      · exact ih
theorem stF_spec {best : List Int} {x : ByteArray} {e : Int} : ∀ (ls : List Leg) (k : Nat) {t : Trip}, n.Legs.drop k = ls → stF n f st best x e ls (k : Int) = some t →
    ∃ (j : Nat) (z : Leg), n.Legs[j]? = some z ∧ z.To = x ∧ t.Leg = (j : Int) ∧ via n f st best z (j : Int) = some e
  | [], k, t, hd, h => by rw [stF] at h; cases h
  | z :: ls, k, t, hd, h => by
    have hz : n.Legs[k]? = some z := by
      have : (n.Legs.drop k)[0]? = some z := by rw [hd]; rfl
      simpa using this
    have hd2 : n.Legs.drop (k + 1) = ls := by
      have := congrArg List.tail hd
      simpa using this
    have hk1 : (k : Int) + 1 = ((k + 1 : Nat) : Int) := by omega
    have ih := stF_spec (best := best) (x := x) (e := e) ls (k + 1) (t := t) hd2
    rw [stF, hk1] at h
    split at h
    · rename_i h1
      split at h
      · rename_i d hdv
        split at h
        · rename_i h2
          cases h
          exact ⟨k, z, hz, h1, rfl, by rw [via_dyv, hdv]; exact congrArg some h2⟩
        · exact ih h
      · exact ih h
    · exact ih h
/-- the way back -/
def chF (n : Network) (f : Int → Int → Option Int) (st : Nat) (b0 : List Int) : Nat → ByteArray → Int → List Trip → Option (List Trip)
  | 0, _, _, acc => some acc
  | k + 1, x, e, acc => match stF n f st (itr n f st k b0) x e n.Legs 0 with
    | some t => chF n f st b0 k (lgOf n t.Leg).From (lab (itr n f st k b0) (ixN (plc n) (lgOf n t.Leg).From)) (t :: acc)
    | none => none
theorem step_ok (h : FOk n f) {best : List Int} (hl : best.length = (plc n).length) {x : ByteArray} (hx : x ∈ plc n) (hc : lab (rnd n f st best) (ixN (plc n) x) ≠ lab best (ixN (plc n) x)) :
    ∃ t, stF n f st best x (lab (rnd n f st best) (ixN (plc n) x)) n.Legs 0 = some t ∧ 0 ≤ t.Leg ∧ t.Leg < n.Legs.length ∧ (∀ b, b.length = (plc n).length → best = rnd n f st b → lab (rnd n f st b) (ixN (plc n) (lgOf n t.Leg).From) ≠ lab b (ixN (plc n) (lgOf n t.Leg).From)) := by
  rcases (rnd_lab (st := st) h hl (ixN (plc n) x)).1 with e | ⟨j, z, e, g1, g2, g3, g4, g5⟩
  · exact absurd e hc
  · have hm := List.mem_of_getElem? g1
    have hto : z.To = x := ixN_inj ((plc_mem n _).2 ⟨z, hm, .inr rfl⟩) hx g2
    obtain ⟨t, ht⟩ := stF_has (n := n) (f := f) (st := st) (best := best) (x := x) (e := e) n.Legs 0 (by simp) ⟨j, z, by omega, g1, hto, g3⟩
    obtain ⟨j2, z2, q1, q2, q3, q4⟩ := stF_spec (n := n) (f := f) (st := st) n.Legs 0 (by simp) ht
    have hj : j2 < n.Legs.length := by
      rcases Nat.lt_or_ge j2 n.Legs.length with hh | hh
      · exact hh
      · rw [List.getElem?_eq_none hh] at q1; cases q1
    have hz2 : lgOf n t.Leg = z2 := by
      have := lg_get (n := n) (l := t.Leg) (by omega) (by omega)
      rw [q3, Int.toNat_natCast, q1] at this
      rw [q3]
      exact (Option.some.inj this).symm
    refine ⟨t, by rw [g4]; exact ht, by omega, by omega, fun b hb hbe he => ?_⟩
    rw [hz2] at he
    have v2 : via n f st b z2 (j2 : Int) = some e := by
      rw [← via_congr (b1 := best) (b2 := b) (by rw [hbe]; exact he)]; exact q4
    refine (rnd_lab (st := st) h hb (ixN (plc n) x)).2 j2 z2 e q1 (by unfold bI; rw [q2]) v2 ?_
    rw [← hbe]
    exact g5
theorem chF_ok (h : FOk n f) {b0 : List Int} (hl : b0.length = (plc n).length) : ∀ (k : Nat) {x : ByteArray} (acc : List Trip), x ∈ plc n → (∀ j, k = j + 1 → lab (itr n f st (j + 1) b0) (ixN (plc n) x) ≠ lab (itr n f st j b0) (ixN (plc n) x)) →
    ∃ r, chF n f st b0 k x (lab (itr n f st k b0) (ixN (plc n) x)) acc = some r ∧ r.length = acc.length + k
  | 0, x, acc, _, _ => ⟨acc, rfl, rfl⟩
  | k + 1, x, acc, hx, hc => by
    have hc := hc k rfl
    rw [itr_succ] at hc ⊢
    obtain ⟨t, t1, t2, t3, t4⟩ := step_ok h ((itr_len k _).trans hl) hx hc
    have hm := lg_mem t2 t3
    obtain ⟨r, r1, r2⟩ := chF_ok h hl k (x := (lgOf n t.Leg).From) (t :: acc) ((plc_mem n _).2 ⟨_, hm, .inl rfl⟩) (fun j hj => by
      subst hj
      have := t4 (itr n f st j b0) ((itr_len j _).trans hl) (itr_succ j b0)
      rw [itr_succ]; exact this)
    refine ⟨r, ?_, by rw [r2]; simp; omega⟩
    rw [chF, t1]
    exact r1
end
theorem last_i {fd : Fd} {n : Network} {f : Int → Int → Option Int} (hn : NetOk n) (hf : Find fd n f) {best : List Int} (hl : best.length = (plc n).length) (hb : ∀ i, lab best i ≤ 100000) {s x : ByteArray} (hs : s ∈ plc n) (hx : x ∈ plc n) (e : Int) : ∀ (ls : List Leg) (k : Nat), n.Legs.drop k = ls →
    I_lastLeg_l1 G.real TE.real n fd (plc n) best s ((ixN (plc n) x : Nat) : Int) e ls (k : Int) = some (match stF n f (ixN (plc n) s) best x e ls (k : Int) with | some t => .ret (t, true) | none => .out ())
  | [], k, _ => by rw [I_lastLeg_l1, stF]
  | z :: ls, k, hd => by
    have hlen := hn.len
    have hk : k < n.Legs.length := by
      have := congrArg List.length hd
      simp at this; omega
    have hz : n.Legs[k]? = some z := by
      have : (n.Legs.drop k)[0]? = some z := by rw [hd]; rfl
      simpa using this
    have hd2 : n.Legs.drop (k + 1) = ls := by
      have := congrArg List.tail hd
      simpa using this
    have hm := List.mem_of_getElem? hz
    obtain ⟨ha, hbz⟩ := leg_idx hm
    have pl := plc_len n
    have hfm : z.From ∈ plc n := (plc_mem n _).2 ⟨z, hm, .inl rfl⟩
    have e1 : ix (plc n) z.From = (aI n z : Int) := ix_of hfm
    have hk1 : (k : Int) + 1 = ((k + 1 : Nat) : Int) := by omega
    rw [I_lastLeg_l1, stF]
    simp only [lP_eq, pAt_i (show (plc n).length ≤ 4194304 by omega), e1, R_nat, Int.toNat_natCast, R_lt, R_add, R_eq, R_seqd, br_dec]
    rw [gd_true (by omega), gt_some (ixN_get hx).2, w64 (n := (k : Int) + 1) (by omega) (by omega), hk1, last_i hn hf hl hb hs hx e ls (k + 1) hd2]
    by_cases h0 : z.To = x
    · rw [if_pos h0, if_pos h0, gd_true (by omega), gt_some (lab_get (l := best) (by omega))]
      unfold dyv
      by_cases h1 : lab best (aI n z) < 0
      · rw [if_pos h1, if_pos h1]
      · rw [if_neg h1, if_neg h1, gd_true (by omega)]
        have hxx := hb (aI n z)
        have hc := hn.change
        have er : I_readyAt G.real TE.real n (lab best (aI n z)) (decide (z.From = s)) = rdy n (lab best (aI n z)) (decide (aI n z = ixN (plc n) s)) := by
          unfold I_readyAt rdy
          simp only [R_add, br_dec]
          rw [w64 (by omega) (by omega)]
          by_cases hss : z.From = s
          · rw [if_pos hss, if_pos (by simp [aI, hss])]
          · rw [if_neg hss, if_neg (by simp only [decide_eq_true_eq]; exact fun h => hss (ixN_inj hfm hs h))]
        rw [er, hf.call, cl_some]
        cases hfv : f (k : Int) (rdy n (lab best (aI n z)) (decide (aI n z = ixN (plc n) s))) with
        | none => rfl
        | some d =>
          obtain ⟨r1, r2, r3, r4⟩ := runs_ok (n := n) (by omega) (hf.ok hfv).1
          simp only [tbO, br_t]
          rw [end_i hn r1 r2 r3 r4, cl_some]
          by_cases h2 : enN n (k : Int) d = e
          · rw [if_pos h2, if_pos h2]
          · rw [if_neg h2, if_neg h2]
    · rw [if_neg h0, if_neg h0]
theorem step_s {n : Network} {c : List Trip} {b : List Booking} {w : Int} (hn : NetOk n) {best : List Int} (hl : best.length = (plc n).length) (hb : ∀ i, lab best i ≤ 100000) {st : Nat} {x : ByteArray} (hx : x ∈ plc n) (e : Int) : ∀ (ls : List Leg) (k : Nat), n.Legs.drop k = ls →
    S_l6Step_l1 G.real TE.real n b c w (plc n) best (st : Int) ((ixN (plc n) x : Nat) : Int) e ls (k : Int) = some (match stF n (fF n c b w) st best x e ls (k : Int) with | some t => .ret t | none => .out ())
  | [], k, _ => by rw [S_l6Step_l1, stF]
  | z :: ls, k, hd => by
    have hlen := hn.len
    have hk : k < n.Legs.length := by
      have := congrArg List.length hd
      simp at this; omega
    have hz : n.Legs[k]? = some z := by
      have : (n.Legs.drop k)[0]? = some z := by rw [hd]; rfl
      simpa using this
    have hd2 : n.Legs.drop (k + 1) = ls := by
      have := congrArg List.tail hd
      simpa using this
    have hm := List.mem_of_getElem? hz
    obtain ⟨ha, hbz⟩ := leg_idx hm
    have pl := plc_len n
    have hfm : z.From ∈ plc n := (plc_mem n _).2 ⟨z, hm, .inl rfl⟩
    have e1 : ix (plc n) z.From = (aI n z : Int) := ix_of hfm
    have hk1 : (k : Int) + 1 = ((k + 1 : Nat) : Int) := by omega
    rw [S_l6Step_l1, stF]
    simp only [lP_eq, pAt_s (show (plc n).length ≤ 4194304 by omega), e1, R_nat, Int.toNat_natCast, R_lt, R_le, R_add, R_eq, R_seqd, br_dec]
    rw [gd_true (by omega), gt_some (ixN_get hx).2, w64 (n := (k : Int) + 1) (by omega) (by omega), hk1, step_s hn hl hb hx e ls (k + 1) hd2]
    by_cases h0 : z.To = x
    · rw [if_pos h0, if_pos h0, gd_true (by omega), gt_some (lab_get (l := best) (by omega))]
      unfold dyv
      by_cases h1 : lab best (aI n z) < 0
      · rw [if_pos h1, if_pos h1]
      · rw [if_neg h1, if_neg h1, gd_true (by omega)]
        have hxx := hb (aI n z)
        have hc := hn.change
        have er : S_l4Ready G.real TE.real n (lab best (aI n z)) (decide ((aI n z : Int) = (st : Int))) = rdy n (lab best (aI n z)) (decide (aI n z = st)) := by
          unfold S_l4Ready rdy
          simp only [R_add, br_dec]
          rw [w64 (by omega) (by omega)]
          by_cases hs : aI n z = st
          · rw [if_pos (by omega), if_pos (by simp [hs])]
          · rw [if_neg (by omega), if_neg (by simp [hs])]
        rw [er, free_s hn, cl_some]
        cases hfv : fF n c b w (k : Int) (rdy n (lab best (aI n z)) (decide (aI n z = st))) with
        | none =>
          rw [if_neg (show ¬ (0 : Int) ≤ dyO none by show ¬ (0 : Int) ≤ -1; omega)]
        | some d =>
          obtain ⟨r1, r2, r3, r4⟩ := runs_ok (n := n) (by omega) ((find_free hn c b w).ok hfv).1
          rw [if_pos (show (0 : Int) ≤ dyO (some d) from r3), show dyO (some d) = d from rfl, end_s hn r1 r2 r3 r4, cl_some]
          by_cases h2 : enN n (k : Int) d = e
          · simp only [if_pos h2]
          · simp only [if_neg h2]
    · rw [if_neg h0, if_neg h0]
end Go.Vs
/- FindRoom: the loops, and what both texts give. -/
namespace Go.Vs
open Go.IntWalk
theorem least (Q : Nat → Prop) : ∀ (m : Nat), Q m → ∃ y, y ≤ m ∧ Q y ∧ ∀ u, u < y → ¬ Q u
  | 0, h => ⟨0, Nat.le_refl _, h, fun u hu => absurd hu (Nat.not_lt_zero u)⟩
  | m + 1, h => by
    rcases Classical.em (∃ u, u < m + 1 ∧ Q u) with ⟨u, h1, h2⟩ | h3
    · rcases Nat.lt_or_ge u m with hu | hu
      · obtain ⟨y, y1, y2, y3⟩ := least (fun k => k ≤ m ∧ Q k ∨ k = m) m (.inr rfl)
        rcases Classical.em (∃ u, u ≤ m ∧ Q u) with h4 | h4
        · obtain ⟨u, g1, g2⟩ := h4
          rcases y2 with ⟨_, y2⟩ | y2
          · exact ⟨y, by omega, y2, fun v hv hq => y3 v hv (.inl ⟨by omega, hq⟩)⟩
          · subst y2
            rcases Nat.lt_or_ge u y with hh | hh
            · exact absurd (.inl ⟨g1, g2⟩) (y3 u hh)
            · obtain rfl : u = y := by omega
              exact ⟨u, by omega, g2, fun v hv hq => y3 v hv (.inl ⟨by omega, hq⟩)⟩
        · exact absurd ⟨u, by omega, h2⟩ h4
      · obtain rfl : u = m := by omega
        obtain ⟨y, y1, y2, y3⟩ := least Q u h2
        exact ⟨y, by omega, y2, y3⟩
    · exact ⟨m + 1, Nat.le_refl _, h, fun u hu hq => h3 ⟨u, hu, hq⟩⟩
theorem arrB_at {n : Network} {f : Int → Int → Option Int} {s : ByteArray} {a m : Int} (h1 : s ∈ plc n) (h2 : a ≤ 100000) (h3 : 0 ≤ m) : arrB n f s a m = itr n f (ixN (plc n) s) m.toNat (lab0 n (ixN (plc n) s) a) := by
  unfold arrB
  rw [if_neg (by simp [h1]; omega)]
theorem wl1 {fd : Fd} {n : Network} {f : Int → Int → Option Int} (hn : NetOk n) (hf : Find fd n f) {s : ByteArray} {a : Int} (hs : s ∈ plc n) (ha : a ≤ 100000) {x2 : Int} (hx : 0 ≤ x2) : ∀ (m k : Nat), k + m ≤ 1000 →
    I_wayTo_l1 G.real TE.real n fd s a x2 m (k : Int) ((List.range k).map fun j => itr n f (ixN (plc n) s) j (lab0 n (ixN (plc n) s) a)) = some (.out ((List.range (k + m)).map fun j => itr n f (ixN (plc n) s) j (lab0 n (ixN (plc n) s) a)))
  | 0, k, _ => by rw [I_wayTo_l1]; rfl
  | m + 1, k, h => by
    have hi := (ixN_get hs).1
    rw [I_wayTo_l1, arr_i hn hf s a (by omega), arrB_at hs ha (by omega), cl_some]
    simp only [R_eq, R_lt, R_int, dlenx_I64, br_dec, lP_eq, R_add, Int.toNat_natCast]
    rw [itr_len, lab0_len, if_neg (by omega), if_neg (by omega), w64 (by omega) (by omega), gd_true (by simp; omega), show (k : Int) + 1 = ((k + 1 : Nat) : Int) from by omega]
    have := wl1 hn hf hs ha hx m (k + 1) (by omega)
    rw [List.range_succ, List.map_append, List.map_cons, List.map_nil] at this
    rw [this, show k + 1 + m = k + (m + 1) by omega]
theorem wl2 {R : Nat → List Int} {P p : Nat} {x5 : Int} (hP : P ≤ 1000) (hp : ∀ m, p < (R m).length) : ∀ (d fuel v : Nat), d < fuel → v + d ≤ P → (∀ u, v ≤ u → u < v + d → lab (R u) p ≠ x5) → lab (R (v + d)) p = x5 →
    I_wayTo_l2 G.real TE.real (p : Int) x5 ((List.range (P + 1)).map R) fuel (v : Int) = some ((v + d : Nat) : Int)
  | d, 0, v, h, _, _, _ => absurd h (Nat.not_lt_zero d)
  | d, fuel + 1, v, h, h1, h2, h3 => by
    have g : ((List.range (P + 1)).map R)[v]? = some (R v) := by
      rw [List.getElem?_map, List.getElem?_range (by omega)]; rfl
    have hp1 := hp v
    rw [I_wayTo_l2]
    simp only [R_nat, Int.toNat_natCast, dlenx_LI64, dlenx_I64, R_eq, br_dec, R_add]
    rw [gt_some g, gd_true (by simp; omega), gd_true (by omega), gt_some (lab_get hp1)]
    cases d with
    | zero => rw [if_pos (show lab (R v) p = x5 from h3)]; rfl
    | succ d =>
      rw [if_neg (h2 v (by omega) (by omega)), w64 (by omega) (by omega), show (v : Int) + 1 = ((v + 1 : Nat) : Int) from by omega, wl2 hP hp d fuel (v + 1) (by omega) (by omega) (fun u g1 g2 => h2 u (by omega) (by omega)) (by rw [show v + 1 + d = v + (d + 1) by omega]; exact h3), show v + 1 + d = v + (d + 1) by omega]
theorem sl1 {n : Network} {b : List Booking} {c : List Trip} {s : ByteArray} {a w : Int} {R : Nat → List Int} {p : Nat} {x5 : Int} (hR : ∀ m : Nat, S_BestFree G.real TE.real n b c s a w (m : Int) = some (R m) ∨ 1000 < m) (hp : ∀ m, p < (R m).length) : ∀ (d fuel v : Nat), d < fuel → v + d ≤ 1000 → (∀ u, v ≤ u → u < v + d → lab (R u) p ≠ x5) → lab (R (v + d)) p = x5 →
    S_FindRoom_l1 G.real TE.real n b c s a w (p : Int) x5 fuel (v : Int) = some ((v + d : Nat) : Int)
  | d, 0, v, h, _, _, _ => absurd h (Nat.not_lt_zero d)
  | d, fuel + 1, v, h, h1, h2, h3 => by
    have hp1 := hp v
    have hr : S_BestFree G.real TE.real n b c s a w (v : Int) = some (R v) := by
      rcases hR v with hr | hr
      · exact hr
      · omega
    rw [S_FindRoom_l1, hr, cl_some]
    simp only [R_nat, Int.toNat_natCast, dlenx_I64, R_eq, br_dec, R_add]
    rw [gd_true (by omega), gt_some (lab_get hp1)]
    cases d with
    | zero => rw [if_pos (show lab (R v) p = x5 from h3)]; rfl
    | succ d =>
      rw [if_neg (h2 v (by omega) (by omega)), w64 (by omega) (by omega), show (v : Int) + 1 = ((v + 1 : Nat) : Int) from by omega, sl1 hR hp d fuel (v + 1) (by omega) (by omega) (fun u g1 g2 => h2 u (by omega) (by omega)) (by rw [show v + 1 + d = v + (d + 1) by omega]; exact h3), show v + 1 + d = v + (d + 1) by omega]
theorem stF_rng {n : Network} {f : Int → Int → Option Int} {st : Nat} {best : List Int} {x : ByteArray} {e : Int} {t : Trip} (h : stF n f st best x e n.Legs 0 = some t) : 0 ≤ t.Leg ∧ t.Leg < n.Legs.length := by
  obtain ⟨j, z, q1, q2, q3, q4⟩ := stF_spec (n := n) (f := f) (st := st) n.Legs 0 (by simp) h
  have hj : j < n.Legs.length := by
    rcases Nat.lt_or_ge j n.Legs.length with hh | hh
    · exact hh
    · rw [List.getElem?_eq_none hh] at q1; cases q1
  omega
theorem wl3 {fd : Fd} {n : Network} {f : Int → Int → Option Int} (hn : NetOk n) (hf : Find fd n f) {s : ByteArray} (hs : s ∈ plc n) {b0 : List Int} (hl : b0.length = (plc n).length) (hb : ∀ i, lab b0 i ≤ 100000) {P : Nat} (hP : P ≤ 1000) : ∀ (k fuel : Nat) (x : ByteArray) (e : Int) (acc r : List Trip), k < fuel → k ≤ P → x ∈ plc n → acc.length + k ≤ 1000 → chF n f (ixN (plc n) s) b0 k x e acc.reverse = some r →
    I_wayTo_l3 G.real TE.real n fd s (plc n) ((List.range (P + 1)).map fun j => itr n f (ixN (plc n) s) j b0) fuel ((ixN (plc n) x : Nat) : Int) e (k : Int) acc = some (.out r.reverse)
  | k, 0, x, e, acc, r, h, _, _, _, _ => absurd h (Nat.not_lt_zero k)
  | 0, fuel + 1, x, e, acc, r, h, h1, hx, h2, hc => by
    rw [chF] at hc
    cases hc
    rw [I_wayTo_l3]
    simp only [R_lt, br_dec]
    rw [if_neg (by omega), List.reverse_reverse]
  | k + 1, fuel + 1, x, e, acc, r, h, h1, hx, h2, hc => by
    have hok : FOk n f := ⟨hn, hf.ok⟩
    have pl := plc_len n
    have hlen := hn.len
    have g : ((List.range (P + 1)).map fun j => itr n f (ixN (plc n) s) j b0)[k]? = some (itr n f (ixN (plc n) s) k b0) := by
      rw [List.getElem?_map, List.getElem?_range (by omega)]; rfl
    rw [chF] at hc
    rw [I_wayTo_l3]
    have hwr : G.real.wrap .i64 (G.real.sub ((k + 1 : Nat) : Int) 1) = (k : Int) := by rw [R_sub, w64 (by omega) (by omega)]; omega
    simp only [R_lt, br_dec, hwr, R_nat, Int.toNat_natCast]
    rw [if_pos (by omega), gt_some g, gd_true (by simp; omega)]
    unfold I_lastLeg
    have hl2 := (itr_len (n := n) (f := f) (st := ixN (plc n) s) k b0).trans hl
    have hb2 := itr_le (st := ixN (plc n) s) hok k hl hb
    rw [show (0 : Int) = ((0 : Nat) : Int) from rfl, last_i hn hf hl2 hb2 hs hx e n.Legs 0 (by simp), cl_some]
    cases ht : stF n f (ixN (plc n) s) (itr n f (ixN (plc n) s) k b0) x e n.Legs ((0 : Nat) : Int) with
    | none => rw [show ((0 : Nat) : Int) = 0 from rfl] at ht; rw [ht] at hc; cases hc
    | some t =>
      rw [show ((0 : Nat) : Int) = 0 from rfl] at ht
      rw [ht] at hc
      obtain ⟨t2, t3⟩ := stF_rng ht
      have hfm : (lgOf n t.Leg).From ∈ plc n := (plc_mem n _).2 ⟨_, lg_mem t2 t3, .inl rfl⟩
      have hi := (ixN_get hfm).1
      simp only [lr_ret, lP_eq, cl_some, br_t]
      rw [gd_true (by simp; omega), gd_true (by omega), gt_some (lg_get t2 t3)]
      simp only [pAt_i (show (plc n).length ≤ 4194304 by omega), ix_of hfm, dlenx_I64]
      rw [gd_true (by simp; omega), gd_true (by omega), Int.toNat_natCast, gt_some (lab_get (by omega))]
      refine wl3 hn hf hs hl hb hP k fuel _ _ _ r (by omega) (by omega) hfm (by simp; omega) ?_
      rw [List.reverse_append]
      exact hc
theorem wl4 (y : List Trip) (hy : y.length ≤ 2000) : ∀ (k fuel : Nat) (acc : List Trip), k < fuel → k ≤ y.length → acc.length + k ≤ 2000 →
    I_wayTo_l4 G.real TE.real y fuel acc ((k : Int) - 1) = some (acc ++ (y.take k).reverse)
  | k, 0, acc, h, _, _ => absurd h (Nat.not_lt_zero k)
  | 0, fuel + 1, acc, h, h1, h2 => by
    rw [I_wayTo_l4]
    simp only [R_le, br_dec]
    rw [if_neg (by omega)]; simp
  | k + 1, fuel + 1, acc, h, h1, h2 => by
    rw [I_wayTo_l4]
    simp only [R_le, br_dec, R_nat, R_sub, lP_eq, dlenx_Trip]
    rw [show ((k + 1 : Nat) : Int) - 1 = (k : Int) from by omega, if_pos (by omega), gd_true (by omega), Int.toNat_natCast, gt_some (List.getElem?_eq_getElem (show k < y.length by omega)), gd_true (by simp; omega), w64 (by omega) (by omega), wl4 y hy k fuel _ (by omega) (by omega) (by simp; omega)]
    congr 1
    rw [List.take_add_one, List.getElem?_eq_getElem (show k < y.length by omega), List.reverse_append]
    simp
theorem sl2 {n : Network} {b : List Booking} {c : List Trip} {w a : Int} (hn : NetOk n) {s : ByteArray} {b0 : List Int} (hl : b0.length = (plc n).length) (hb : ∀ i, lab b0 i ≤ 100000)
    (hR : ∀ m : Nat, S_BestFree G.real TE.real n b c s a w (m : Int) = some (itr n (fF n c b w) (ixN (plc n) s) m b0) ∨ 1000 < m) : ∀ (k fuel : Nat) (x : ByteArray) (e : Int) (acc r : List Trip), k < fuel → k ≤ 1000 → x ∈ plc n → acc.length + k ≤ 1000 → chF n (fF n c b w) (ixN (plc n) s) b0 k x e acc = some r →
    S_FindRoom_l2 G.real TE.real n b c s a w (plc n) ((ixN (plc n) s : Nat) : Int) fuel ((ixN (plc n) x : Nat) : Int) acc e (k : Int) = some r
  | k, 0, x, e, acc, r, h, _, _, _, _ => absurd h (Nat.not_lt_zero k)
  | 0, fuel + 1, x, e, acc, r, h, h1, hx, h2, hc => by
    rw [chF] at hc
    cases hc
    rw [S_FindRoom_l2]
    simp only [R_lt, br_dec]
    rw [if_neg (by omega)]
  | k + 1, fuel + 1, x, e, acc, r, h, h1, hx, h2, hc => by
    have hok : FOk n (fF n c b w) := ⟨hn, (find_free hn c b w).ok⟩
    have pl := plc_len n
    have hlen := hn.len
    have hr : S_BestFree G.real TE.real n b c s a w (k : Int) = some (itr n (fF n c b w) (ixN (plc n) s) k b0) := by
      rcases hR k with hr | hr
      · exact hr
      · omega
    rw [chF] at hc
    rw [S_FindRoom_l2]
    simp only [R_lt, br_dec, R_sub, R_nat]
    rw [if_pos (by omega), w64 (by omega) (by omega), show ((k + 1 : Nat) : Int) - 1 = (k : Int) from by omega, hr, cl_some]
    unfold S_l6Step
    have hl2 := (itr_len (n := n) (f := fF n c b w) (st := ixN (plc n) s) k b0).trans hl
    have hb2 := itr_le (st := ixN (plc n) s) hok k hl hb
    rw [show (0 : Int) = ((0 : Nat) : Int) from rfl, step_s hn hl2 hb2 hx e n.Legs 0 (by simp), cl_some]
    cases ht : stF n (fF n c b w) (ixN (plc n) s) (itr n (fF n c b w) (ixN (plc n) s) k b0) x e n.Legs ((0 : Nat) : Int) with
    | none => rw [show ((0 : Nat) : Int) = 0 from rfl] at ht; rw [ht] at hc; cases hc
    | some t =>
      rw [show ((0 : Nat) : Int) = 0 from rfl] at ht
      rw [ht] at hc
      obtain ⟨t2, t3⟩ := stF_rng ht
      have hfm : (lgOf n t.Leg).From ∈ plc n := (plc_mem n _).2 ⟨_, lg_mem t2 t3, .inl rfl⟩
      have hi := (ixN_get hfm).1
      simp only [lr_ret, lP_eq, cl_some]
      rw [gd_true (by simp; omega), gd_true (by omega), gt_some (lg_get t2 t3)]
      simp only [pAt_s (show (plc n).length ≤ 4194304 by omega), ix_of hfm, dlenx_I64]
      rw [gd_true (by omega), Int.toNat_natCast, gt_some (lab_get (by omega))]
      exact sl2 hn hl hb hR k fuel _ _ _ r (by omega) (by omega) hfm (by simp; omega) hc
end Go.Vs
/- FindRoom: both texts give the same. -/
namespace Go.Vs
open Go.IntWalk
theorem fr_eq {n : Network} (ht : n.tot ≤ 1048576) (l : List Booking) (hl : l.length ≤ 1048576) (c : List Trip) (s p : ByteArray) (a w : Int) :
    ∃ r, S_FindRoom G.real TE.real n l c s p a w = some r ∧ I_FindRoom G.real TE.real n l c s p a w = some r ∧ r.1.length ≤ 1000 := by
  have pl := plc_len n
  have hlen := tot_len ht
  have hS : ∀ m : Int, m ≤ 9223372036854775807 → S_BestFree G.real TE.real n l c s a w m = some (bfL n l c s a w m) := fun m hm => bfr_s ht l hl c s a w hm
  unfold S_FindRoom I_FindRoom I_freeOf
  rw [plc_s (by omega), bk_i ht l hl]
  simp only [cl_some, lP_eq, R_int, dlenx_S, pAt_s (show (plc n).length ≤ 4194304 by omega)]
  rw [hS _ (by omega), cl_some]
  simp only [R_lt, R_eq, R_nat, dlenx_I64, br_dec]
  cases hb : bkB n l with
  | false =>
    have e : bfL n l c s a w ((plc n).length : Int) = [] := by unfold bfL; rw [if_neg (by simp [hb])]
    refine ⟨([], false), ?_, rfl, by simp⟩
    rw [e]
    split
    · rfl
    · rfl
  | true =>
    have hn := net_ok ht (bk_net hb)
    have hlen := hn.len
    rw [br_t]
    by_cases hw : w < 1
    · have e : bfL n l c s a w ((plc n).length : Int) = [] := by unfold bfL; rw [if_neg (fun h => by omega)]
      refine ⟨([], false), ?_, by rw [if_pos hw], by simp⟩
      rw [e]
      split
      · rfl
      · rfl
    · have hbf : ∀ m : Int, bfL n l c s a w m = arrB n (fF n c l w) s a m := fun m => by unfold bfL; rw [if_pos ⟨hb, by omega⟩]
      have hf := find_free hn c l w
      have hok : FOk n (fF n c l w) := ⟨hn, hf.ok⟩
      rw [if_neg hw, hbf]
      unfold I_wayTo
      rw [plc_i (by omega)]
      simp only [cl_some, lP_eq, R_int, dlenx_S, pAt_i (show (plc n).length ≤ 4194304 by omega), R_lt, R_nat, dlenx_I64, br_dec, R_sub, dlenx_LI64]
      rw [gd_true (c := ((plc n).length : Int) ≤ 4611686018427387904) (by omega), show cntLe 0 ((plc n).length : Int) = (plc n).length + 1 from by unfold cntLe; omega]
      by_cases h1 : s ∈ plc n ∧ a ≤ 100000
      · by_cases h2 : p ∈ plc n
        · -- both places stand
          have hi := ixN_get h1.1
          have hj := ixN_get h2
          have hR : ∀ m : Int, 0 ≤ m → arrB n (fF n c l w) s a m = itr n (fF n c l w) (ixN (plc n) s) m.toNat (lab0 n (ixN (plc n) s) a) := fun m hm => arrB_at h1.1 h1.2 hm
          have hll := lab0_len n (ixN (plc n) s) a
          have hlb := lab0_le (n := n) hi.1 h1.2
          have hW := wl1 hn hf (a := a) h1.1 h1.2 (x2 := ix (plc n) p) (by rw [ix_of h2]; omega) ((plc n).length + 1) 0 (by omega)
          rw [show (0 : Int) = ((0 : Nat) : Int) from rfl]
          rw [show ([] : List (List Int)) = ((List.range 0).map fun j => itr n (fF n c l w) (ixN (plc n) s) j (lab0 n (ixN (plc n) s) a)) from rfl, hW, Nat.zero_add]
          simp only [cl_some, lr_out]
          have g : ((List.range ((plc n).length + 1)).map fun j => itr n (fF n c l w) (ixN (plc n) s) j (lab0 n (ixN (plc n) s) a))[(plc n).length]? = some (itr n (fF n c l w) (ixN (plc n) s) (plc n).length (lab0 n (ixN (plc n) s) a)) := by
            rw [List.getElem?_map, List.getElem?_range (by omega)]; rfl
          have hp : ∀ m, ixN (plc n) p < (itr n (fF n c l w) (ixN (plc n) s) m (lab0 n (ixN (plc n) s) a)).length := fun m => by rw [itr_len, hll]; exact hj.1
          have hpP := hp (plc n).length
          rw [hR _ (by omega), Int.toNat_natCast, ix_of h2]
          by_cases h3 : lab (itr n (fF n c l w) (ixN (plc n) s) (plc n).length (lab0 n (ixN (plc n) s) a)) (ixN (plc n) p) < ((0 : Nat) : Int)
          · refine ⟨([], false), ?_, ?_, by simp⟩
            · rw [if_neg (by omega), if_neg (by omega), gd_true (by omega), Int.toNat_natCast, gt_some (lab_get hpP), if_pos h3]
            · rw [gt_some g, gd_true (by simp; omega), gd_true (by omega), Int.toNat_natCast, gt_some (lab_get hpP), if_pos h3]; rfl
          · have hRS : ∀ m : Nat, S_BestFree G.real TE.real n l c s a w (m : Int) = some (itr n (fF n c l w) (ixN (plc n) s) m (lab0 n (ixN (plc n) s) a)) ∨ 1000 < m := fun m => by
              rcases Nat.lt_or_ge 1000 m with hm | hm
              · exact .inr hm
              · left; rw [hS _ (by omega), hbf, hR _ (by omega), Int.toNat_natCast]
            obtain ⟨y, y1, y2, y3⟩ := least (fun m => lab (itr n (fF n c l w) (ixN (plc n) s) m (lab0 n (ixN (plc n) s) a)) (ixN (plc n) p) = lab (itr n (fF n c l w) (ixN (plc n) s) (plc n).length (lab0 n (ixN (plc n) s) a)) (ixN (plc n) p)) (plc n).length rfl
            have q1 := wl2 (R := fun m => itr n (fF n c l w) (ixN (plc n) s) m (lab0 n (ixN (plc n) s) a)) (P := (plc n).length) (p := ixN (plc n) p) (by omega) hp y 1000000000 0 (by omega) (by omega) (fun u _ hu => y3 u (by omega)) (by rw [Nat.zero_add]; exact y2)
            have q2 := sl1 (R := fun m => itr n (fF n c l w) (ixN (plc n) s) m (lab0 n (ixN (plc n) s) a)) (p := ixN (plc n) p) hRS hp y 1000000000 0 (by omega) (by omega) (fun u _ hu => y3 u (by omega)) (by rw [Nat.zero_add]; exact y2)
            rw [Nat.zero_add] at q1 q2
            obtain ⟨r, r1, r2⟩ := chF_ok hok hll y (x := p) [] h2 (fun j hj => by
              subst hj
              intro he
              exact y3 j (by omega) (he.symm.trans y2))
            rw [y2] at r1
            have q3 := sl2 hn hll hlb hRS y 1000000000 p _ [] r (by omega) (by omega) h2 (by simp; omega) r1
            have q4 := wl3 hn hf h1.1 hll hlb (P := (plc n).length) (by omega) y 1000000000 p _ [] r (by omega) (by omega) h2 (by simp; omega) r1
            simp only [List.length_nil, Nat.zero_add] at r2
            refine ⟨(r, true), ?_, ?_, by simp; omega⟩
            · rw [if_neg (by omega), if_neg (by omega), gd_true (by omega), Int.toNat_natCast, gt_some (lab_get hpP), if_neg h3, gd_true (by omega), q2, cl_some, ix_of h1.1, q3, cl_some]
            · rw [gt_some g, gd_true (by simp; omega), gd_true (by omega), Int.toNat_natCast, gt_some (lab_get hpP), if_neg h3, q1]
              simp only [cl_some]
              rw [q4]
              simp only [cl_some, lr_out, dlenx_Trip, List.length_reverse]
              have q5 := wl4 r.reverse (by simp; omega) r.length 1000000000 [] (by omega) (by simp) (by simp; omega)
              rw [w64 (by omega) (by omega), q5, List.take_of_length_le (by simp), List.reverse_reverse, List.nil_append]
              rfl
        · refine ⟨([], false), ?_, ?_, by simp⟩
          · rw [if_pos (ix_neg.2 h2)]
          · have hla := arrB_len (n := n) (f := fF n c l w) (m := 0) h1.1 h1.2 (by omega)
            have hi := (ixN_get h1.1).1
            rw [I_wayTo_l1, arr_i hn hf s a (by omega), cl_some]
            simp only [R_eq, R_lt, R_int, dlenx_I64, br_dec]
            rw [hla, if_neg (by omega), if_pos (ix_neg.2 h2)]; rfl
      · have e : ∀ m : Int, arrB n (fF n c l w) s a m = [] := fun m => by
          unfold arrB
          rw [if_pos]
          by_cases h2 : s ∈ plc n
          · right; left
            have : ¬ a ≤ 100000 := fun h => h1 ⟨h2, h⟩
            omega
          · exact .inl h2
        refine ⟨([], false), ?_, ?_, by simp⟩
        · rw [e]
          split
          · rfl
          · rfl
        · rw [I_wayTo_l1, arr_i hn hf s a (by omega), cl_some, e]
          rfl
end Go.Vs
namespace Go.Vs
open Go.IntWalk
theorem law5 (n : Network) (l : List Booking) (c : List Trip) (s p : ByteArray) (a w : Int) (hn : n.wd) (hl : l.length ≤ 9223372036854775807) (hc : c.length ≤ 9223372036854775807) (_ : s.size ≤ 9223372036854775807) (_ : p.size ≤ 9223372036854775807) (_ : -9223372036854775808 ≤ a ∧ a ≤ 9223372036854775807) (_ : -9223372036854775808 ≤ w ∧ w ≤ 9223372036854775807) : L_FnExactFindRoom G.real TE.real n l c s p a w = some true := by
  unfold L_FnExactFindRoom
  rw [R_lt, br_dec]
  split
  · rfl
  · rw [R_lt, br_dec]
    split
    · rfl
    · rw [szNetwork_r n _ (by omega) (by omega) hn]
      simp only [lP_eq, R_lt, br_dec]
      by_cases h : szOut 1048576 n.tot < 0
      · rw [if_pos h]
      · have hs := szOut_pos h
        rw [if_neg h, hs.1, szBookingS_r l _ (by omega) (by omega) hl]
        by_cases h2 : szOut (1048576 - (n.tot : Int)) l.length < 0
        · rw [if_pos h2]
        · have hs2 := szOut_pos h2
          rw [if_neg h2, hs2.1, szTripS_r c _ (by omega) (by omega) hc]
          by_cases h3 : szOut (1048576 - (n.tot : Int) - (l.length : Int)) c.length < 0
          · rw [if_pos h3]
          · have hs3 := szOut_pos h3
            have ht : n.tot ≤ 1048576 := by omega
            have hl2 : l.length ≤ 1048576 := by omega
            have hc2 : c.length ≤ 1048576 := by omega
            obtain ⟨r, x1, x2, hr⟩ := fr_eq ht l hl2 c s p a w
            have c1 := cntNetwork_le n
            have c2 := cntBooking_le l
            have c3 := cntTrip_le c
            have c4 := cntTrip_le r.1
            obtain ⟨x', e1, e2, e3⟩ := markNetwork n 1 (by omega) (by omega)
            obtain ⟨l', f1, f2⟩ := markBooking l (1 + (cntNetwork n : Nat)) (by omega) (by omega) (by omega)
            obtain ⟨c', g1, g2, g3⟩ := markTrip c (1 + (cntNetwork n : Nat) + (cntBooking l : Nat)) (by omega) (by omega) (by omega)
            obtain ⟨r', k1, k2, k3⟩ := markTrip r.1 1 (by omega) (by omega) (by omega)
            rw [if_neg h3, toNetwork_r n ht, toBookingS_r l hl2, toTripS_r c hc2]
            simp only [cl_some, x1, x2, eqTripS_r r.1 (by omega), eqNetwork_r n ht, eqBookingS_r l hl2, eqTripS_r c hc2, br_t, e1, f1, g1, k1]
            have ke : G.real.eq (1 + (cntTrip r.1 : Nat)) (1 + (cntTrip r.1 : Nat)) = true := by rw [R_eq]; simp
            cases r.2 with
            | true =>
              simp only [br_t]
              rw [gd_true e2, gd_true e3, gd_true f2, gd_true g2, if_neg (by omega), gd_true k2, k3, if_neg (by omega), ke]
              simp only [br_t]
              rw [if_neg (by omega)]
            | false =>
              simp only [br_f]
              rw [gd_true e2, gd_true e3, gd_true f2, gd_true g2, if_neg (by omega), gd_true k2, k3, if_neg (by omega), ke]
              simp only [br_t]
              rw [if_neg (by omega)]
end Go.Vs
namespace Go.Proofs.Ytilplaaijbpilaa.fnExactFindRoom
open Go.Vs Go.RowKit Go.WideShapes Go.ChangeShapes
set_option linter.unusedVariables false
set_option maxRecDepth 100000
theorem given (as0 : List A) (h : ArgsIs Try.prog 8 Try.f5.params.toList as0) : Go.Vs.Fn Try.prog 5 as0 (.c (.r (.v (.bool true)))) := by
  rw [Try.params5] at h
  obtain ⟨x0, xs0, rfl, ⟨ts0, t0, q0⟩, h⟩ := h
  rw [show tyOf Try.prog 8 25 = some [.sl [.str, .str, .int .i64, .int .i64, .int .i64, .int .i64], .sl [.int .i64], .int .i64] from by kernel_rfl] at t0
  cases t0
  rw [show aggT Try.prog 25 = true from by kernel_rfl] at q0
  obtain ⟨r0, rfl, q0⟩ := q0
  obtain ⟨a0, rfl, w0⟩ := is_Network r0 q0
  obtain ⟨x1, xs1, rfl, ⟨ts1, t1, q1⟩, h⟩ := h
  rw [show tyOf Try.prog 8 43 = some [.sl [.int .i64, .int .i64, .int .i64, .int .i64]] from by kernel_rfl] at t1
  cases t1
  rw [show aggT Try.prog 43 = false from by kernel_rfl] at q1
  obtain ⟨r1, rfl, q1⟩ := q1
  obtain ⟨_, _, e1, q1, e1_⟩ := is_cons q1
  cases e1
  obtain ⟨b1, rfl, l1, q1⟩ := is_sl q1
  obtain ⟨a1, rfl, p1⟩ := rows_is is_Booking b1 q1
  rw [List.length_map] at l1
  obtain ⟨x2, xs2, rfl, ⟨ts2, t2, q2⟩, h⟩ := h
  rw [show tyOf Try.prog 8 44 = some [.sl [.int .i64, .int .i64]] from by kernel_rfl] at t2
  cases t2
  rw [show aggT Try.prog 44 = false from by kernel_rfl] at q2
  obtain ⟨r2, rfl, q2⟩ := q2
  obtain ⟨_, _, e2, q2, e2_⟩ := is_cons q2
  cases e2
  obtain ⟨b2, rfl, l2, q2⟩ := is_sl q2
  obtain ⟨a2, rfl, p2⟩ := rows_is is_Trip b2 q2
  rw [List.length_map] at l2
  obtain ⟨x3, xs3, rfl, ⟨ts3, t3, q3⟩, h⟩ := h
  rw [show tyOf Try.prog 8 9 = some [.str] from by kernel_rfl] at t3
  cases t3
  rw [show aggT Try.prog 9 = false from by kernel_rfl] at q3
  obtain ⟨r3, rfl, q3⟩ := q3
  obtain ⟨_, _, e3, q3, e3_⟩ := is_cons q3
  cases e3
  obtain ⟨a3, rfl, w3⟩ := is_str q3
  obtain ⟨x4, xs4, rfl, ⟨ts4, t4, q4⟩, h⟩ := h
  rw [show tyOf Try.prog 8 9 = some [.str] from by kernel_rfl] at t4
  cases t4
  rw [show aggT Try.prog 9 = false from by kernel_rfl] at q4
  obtain ⟨r4, rfl, q4⟩ := q4
  obtain ⟨_, _, e4, q4, e4_⟩ := is_cons q4
  cases e4
  obtain ⟨a4, rfl, w4⟩ := is_str q4
  obtain ⟨x5, xs5, rfl, ⟨ts5, t5, q5⟩, h⟩ := h
  rw [show tyOf Try.prog 8 3 = some [.int .i64] from by kernel_rfl] at t5
  cases t5
  rw [show aggT Try.prog 3 = false from by kernel_rfl] at q5
  obtain ⟨r5, rfl, q5⟩ := q5
  obtain ⟨_, _, e5, q5, e5_⟩ := is_cons q5
  cases e5
  obtain ⟨a5, rfl, w5⟩ := is_i64 q5
  obtain ⟨x6, xs6, rfl, ⟨ts6, t6, q6⟩, h⟩ := h
  rw [show tyOf Try.prog 8 3 = some [.int .i64] from by kernel_rfl] at t6
  cases t6
  rw [show aggT Try.prog 3 = false from by kernel_rfl] at q6
  obtain ⟨r6, rfl, q6⟩ := q6
  obtain ⟨_, _, e6, q6, e6_⟩ := is_cons q6
  cases e6
  obtain ⟨a6, rfl, w6⟩ := is_i64 q6
  have h := h
  subst h
  exact c_L_FnExactFindRoom rfl rfl (law5 _ _ _ _ _ _ _ w0 l1 l2 w3 w4 w5 w6)
theorem lifted (os : Os) (started : os.Started) (H : Type) (enc : TypeId × Value → H) :
    ReturnsInHanded {} Try.checked os 5 .any (Rows.fnExactFindRoomSpec.pre6 enc Try.prog Try.f5 Rows.fnExactFindRoomRow.domain false) (Rows.fnExactFindRoomSpec.post enc Try.prog Try.f5 false true false false) := by
  refine returnsInHanded_of_change (C := Try.checked) (s := Rows.fnExactFindRoomSpec) (by kernel_rfl) started (by kernel_rfl) Try.func5
    (ChangeSpec.witness6 (enc := enc) (C := Try.checked) false ⟨#[], #[.agg #[.slice none 0 0, .slice none 0 0, .int .i64 0], .slice none 0 0, .slice none 0 0, .string ⟨#[]⟩, .string ⟨#[]⟩, .int .i64 0, .int .i64 0], []⟩ 8 (by kernel_rfl) (by kernel_rfl) (by kernel_rfl) (by kernel_rfl)) ?_
  intro W base args ds gs before hval hW _ _
  refine law_contract (n := 8) (tb := 4) rfl rfl Try.underlying4 (by kernel_rfl) (by kernel_rfl) (fun ds hl => ?_) given W base args ds gs before hval hW
  rw [Try.params5] at hl
  match ds, hl with
  | [d0, d1, d2, d3, d4, d5, d6], _ => exact ⟨rfl, rfl, rfl⟩
theorem facts : joinedFacts Try.prog 5 Try.f5 Rows.fnExactFindRoomSpec Rows.fnExactFindRoomRow = true := by
  unfold joinedFacts
  exact (and_i (and_i (and_i (and_i (and_i (and_i (and_i (and_i (and_i (and_i (and_i (and_i (and_i (and_i (and_i (and_i (and_i (and_i (and_i (and_i (and_i (and_i (and_i (and_i (and_i (and_i (and_i (and_i (and_i (and_i (and_i (by kernel_rfl) io_laid) io_maps) (by kernel_rfl)) (by kernel_rfl)) (by kernel_rfl)) (by kernel_rfl)) (by kernel_rfl)) (by kernel_rfl)) (by kernel_rfl)) (by kernel_rfl)) (by kernel_rfl)) (by kernel_rfl)) (by kernel_rfl)) (by kernel_rfl)) (by kernel_rfl)) (by kernel_rfl)) (by kernel_rfl)) (by kernel_rfl)) (by kernel_rfl)) (by kernel_rfl)) (by kernel_rfl)) (by kernel_rfl)) (by kernel_rfl)) io_heard) io_enter) (by rw [io_final]; rfl)) (by rw [io_make]; rfl)) (by kernel_rfl)) (by kernel_rfl)) (by kernel_rfl)) (by kernel_rfl))
theorem holds : Rows.FnExactFindRoomSaid :=
  OpenClaim.holds_of_wide 5 Try.f5 rfl rfl rfl rfl rfl rfl rfl ⟨rfl, rfl, rfl, rfl, rfl⟩ rfl rfl rfl rfl rfl (by kernel_rfl) Try.func5 facts
    (of_decide_eq_true (by kernel_rfl)) (by unfold Func.isWrapper; first | (rw [if_pos (by decide +kernel)]; kernel_rfl) | (rw [if_neg (by decide +kernel)]; exact ⟨rfl, rfl⟩))
    (fun os started H enc _ => lifted os started H enc)
end Go.Proofs.Ytilplaaijbpilaa.fnExactFindRoom
