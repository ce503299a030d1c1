/- Part of the proofs of this seat's laws: Ve. No condition. -/
import Derived.Test.YtlfbmhmjfffimaaVd
set_option linter.unusedVariables false
set_option linter.unusedSimpArgs false
set_option linter.unusedSectionVars false
namespace Go.Vs
open Go.RowKit

def depFit (cls : List (List Nat)) : Nat → List Oper → List (List Nat) → Bool
  | _, [], [] => true
  | k, o :: os, c :: cs => (o.after.toList.all fun e => !Region.binds .any e || decide (e.on < k)) && (c.all fun i => o.after.toList.any fun e => Region.binds .any e && (e.on == i || hasN (cls.getD e.on []) i)) && depFit cls (k + 1) os cs
  | _, _, _ => false
theorem depFit_spec {cls : List (List Nat)} : ∀ (os : List Oper) (cs : List (List Nat)) (k : Nat), depFit cls k os cs = true → ∀ j o, os[j]? = some o →
    (∀ e ∈ o.after, Region.binds .any e = true → e.on < k + j) ∧ ∀ i ∈ cs.getD j [], ∃ e ∈ o.after, Region.binds .any e = true ∧ (e.on = i ∨ i ∈ cls.getD e.on [])
  | [], _, _, _, j, o, ho => by simp at ho
  | o0 :: os, [], k, h, _, _, _ => by simp [depFit] at h
  | o0 :: os, c :: cs, k, h, j, o, ho => by
    simp only [depFit, Bool.and_eq_true, List.all_eq_true, List.any_eq_true, Bool.or_eq_true, Bool.not_eq_true', decide_eq_true_eq, beq_iff_eq] at h
    obtain ⟨⟨h1, h2⟩, h3⟩ := h
    cases j with
    | zero =>
      simp at ho
      subst ho
      refine ⟨fun e he hb => ?_, fun i hi => ?_⟩
      · rcases h1 e (by simpa using he) with h | h
        · rw [hb] at h; cases h
        · simpa using h
      · obtain ⟨e, he, hb, ho⟩ := h2 i (by simpa using hi)
        exact ⟨e, by simpa using he, hb, ho.imp id (hasN_iff _ _).1⟩
    | succ j =>
      have := depFit_spec os cs (k + 1) h3 j o (by simpa using ho)
      refine ⟨fun e he hb => by have := this.1 e he hb; omega, fun i hi => this.2 i (by simpa using hi)⟩

theorem fold_read {α : Type} {d : α} {D : Nat → Bool} {i t : Nat} {es : List (List (Nat × α))} {l : List (Nat × α)} (hDi : D i = false)
    (hlow : ∀ k e', k < i → es[k]? = some e' → t ∈ keys e' → D k = true) (hhigh : ∀ k e', i < k → es[k]? = some e' → t ∈ keys e' → D k = false) :
    lookA d (foldD D 0 es l) t = lookA d (foldD (fun k => decide (k < i)) 0 es l) t := by
  refine foldD_same es 0 l l (fun k e' he ht => ?_) rfl
  rw [Nat.zero_add]
  rcases Nat.lt_trichotomy k i with h | h | h
  · rw [hlow k e' h he ht]; simp [h]
  · subst h; rw [hDi]; simp
  · rw [hhigh k e' h he ht]; simp; omega
theorem fold_step {α : Type} {d : α} {D D' : Nat → Bool} {i t : Nat} {es : List (List (Nat × α))} {l : List (Nat × α)} {e : List (Nat × α)} (he : es[i]? = some e) (hD'i : D' i = true) (hD' : ∀ k, k ≠ i → D' k = D k)
    (hlow : ∀ k e', k < i → es[k]? = some e' → t ∈ keys e' → t ∈ keys e → D k = true) (hhigh : ∀ k e', i < k → es[k]? = some e' → t ∈ keys e' → t ∈ keys e → D k = false) :
    lookA d (foldD D' 0 es l) t = lookA d (e ++ foldD D 0 es l) t := by
  by_cases ht : t ∈ keys e
  · rw [lookA_some e _ (foldD (fun k => decide (k < 0 + i)) 0 es l) t ht, ← foldD_upto es 0 i l e he]
    refine foldD_same es 0 l l (fun k e' hk hkt => ?_) rfl
    rw [Nat.zero_add]
    rcases Nat.lt_trichotomy k i with h | h | h
    · rw [hD' k (by omega), hlow k e' h hk hkt ht]; simp; omega
    · subst h; rw [hD'i]; simp
    · rw [hD' k (by omega), hhigh k e' h hk hkt ht]; simp; omega
  · rw [lookA_none e _ t ht]
    refine foldD_same es 0 l l (fun k e' hk hkt => ?_) rfl
    rw [Nat.zero_add]
    refine hD' k (fun hki => ?_)
    subst hki
    rw [he] at hk
    cases hk
    exact ht hkt

def cntF : List Bool → Nat
  | [] => 0
  | b :: bs => (if b then 0 else 1) + cntF bs
theorem cntF_set : ∀ (l : List Bool) (i : Nat), l[i]? = some false → cntF (l.set i true) + 1 = cntF l
  | [], i, h => by simp at h
  | b :: bs, 0, h => by simp at h; subst h; simp [cntF]; omega
  | b :: bs, i + 1, h => by
    simp only [List.set_cons_succ, cntF]
    have := cntF_set bs i (by simpa using h)
    omega
theorem cntF_zero : ∀ (l : List Bool) (i : Nat), cntF l = 0 → i < l.length → l[i]? = some true
  | [], i, _, h => by simp at h
  | b :: bs, i, h, hi => by
    simp only [cntF] at h
    cases b with
    | false => simp at h
    | true =>
      cases i with
      | zero => simp
      | succ i => simpa using cntF_zero bs i (by simpa using h) (by simpa using hi)
theorem cntF_rep (n : Nat) : cntF (List.replicate n false) = n := by
  induction n with
  | zero => rfl
  | succ n ih => simp [List.replicate_succ, cntF, ih]; omega

def UD (nid n : Nat) (D : Nat → Bool) : Nat → Prop := fun i => i < nid ∨ ∃ j, j < n ∧ D j = true ∧ nid + 16 * j ≤ i ∧ i < nid + 16 * j + 16

section
variable {M : MS} {w0 : World} {N : Nat} {P : Program} {ops : Array Oper} {Q : Exit → Act → World → Prop} {K : St → Prop} {nid : Nat} {st : St} {ss : List Ins} {es : List Eff} {fs : List Fx} {cls : List (List Nat)}

theorem insFits_at : ∀ (os : List Oper) (ss : List Ins) (all : List Oper), insFits P N all os ss = true → os.length = ss.length ∧ ∀ (j : Nat) (o : Oper), os[j]? = some o → ∃ s, ss[j]? = some s ∧ insFit P N all o s = true
  | [], [], all, _ => ⟨rfl, fun j o h => by simp at h⟩
  | o :: os, s :: ss, all, h => by
    simp only [insFits, Bool.and_eq_true] at h
    obtain ⟨h1, h2⟩ := insFits_at os ss all h.2
    refine ⟨by simp [h1], fun j o' ho => ?_⟩
    cases j with
    | zero => simp at ho; subst ho; exact ⟨s, rfl, h.1⟩
    | succ j => simpa using h2 j o' (by simpa using ho)
  | [], _ :: _, _, h => by simp [insFits] at h
  | _ :: _, [], _, h => by simp [insFits] at h

theorem any_go (hfit : insFits P N ops.toList ops.toList ss = true) (hdep : depFit cls 0 ops.toList cls = true) (hch : Chain P nid st ss es fs) (hind : indep cls fs = true) (hQ : ∀ st' a w, K st' → Sim M w0 (· < nid + 16 * ss.length) N st' a w → Q .normal a w) (hK : K (effs st es)) :
    ∀ (fuel : Nat) (listed : Array Bool) (a : Act) (w : World), listed.size = ops.size → cntF listed.toList ≤ fuel → (∀ j, j < ops.size → listed.getD j false = true → ∀ i ∈ cls.getD j [], listed.getD i false = true) →
      Sim M w0 (UD nid ops.size fun i => listed.getD i false) N (stD (fun i => listed.getD i false) es st) a w → wpAny P .any ops Q fuel listed a w := by
  obtain ⟨hlen, hops⟩ := insFits_at _ _ _ hfit
  obtain ⟨l1, l2, l3, l4⟩ := Chain.at _ _ _ _ _ hch
  have hd := depFit_spec _ _ _ hdep
  have hn : ops.size = ss.length := by simpa using hlen
  have hall : ∀ (listed : Array Bool) (a : Act) (w : World), listed.size = ops.size → Region.ready .any ops listed = [] → Sim M w0 (UD nid ops.size fun i => listed.getD i false) N (stD (fun i => listed.getD i false) es st) a w → Q .normal a w := by
    intro listed a w hs hr h
    have hall : ∀ j, j < ops.size → listed.getD j false = true := by
      intro j
      induction j using Nat.strongRecOn with
      | ind j ih =>
        intro hj
        cases hD : listed.getD j false with
        | true => rfl
        | false =>
          have hmem : j ∈ Region.ready .any ops listed := by
            unfold Region.ready
            simp only [List.mem_filter, List.mem_range, Bool.and_eq_true, Bool.not_eq_true']
            refine ⟨hj, ?_, ?_⟩
            · rw [Array.getD_eq_getD_getElem?, Array.getElem?_eq_getElem (by omega)] at hD ⊢
              simpa using hD
            · rw [Array.getElem?_eq_getElem hj]
              simp only [Option.map_some, Option.getD_some, Array.all_eq_true_iff_forall_mem, Bool.or_eq_true, Bool.not_eq_true']
              intro e he
              cases hb : Region.binds .any e with
              | false => exact .inl rfl
              | true =>
                have := (hd j ops[j] (by simp [hj])).1 e he hb
                exact .inr (ih e.on (by omega) (by omega))
          rw [hr] at hmem
          cases hmem
    refine hQ _ a w hK ?_
    have hsame : same (stD (fun i => listed.getD i false) es st) (effs st es) := by
      rw [l3]
      refine ⟨fun t => foldD_same _ 0 _ _ (fun i e he _ => ?_) rfl, fun id => foldD_same _ 0 _ _ (fun i e he _ => ?_) rfl⟩
      all_goals
        have hi : i < es.length := by
          have := (List.getElem?_eq_some_iff.1 he).1
          simpa using this
        rw [Nat.zero_add]
        exact (hall i (by omega)).symm
    obtain ⟨φ, S, fp, h'⟩ := Sim.of_same h hsame
    refine ⟨φ, S, fp, h'.mono fun i hi => ?_⟩
    rcases hi with hi | ⟨j, h1, _, h3, h4⟩
    · show i < _; omega
    · show i < _; omega
  intro fuel
  induction fuel with
  | zero =>
    intro listed a w hs hc hdc h
    have hr : Region.ready .any ops listed = [] := by
      rw [List.eq_nil_iff_forall_not_mem]
      intro i hi
      unfold Region.ready at hi
      simp only [List.mem_filter, List.mem_range, Bool.and_eq_true, Bool.not_eq_true'] at hi
      have := cntF_zero listed.toList i (by omega) (by simp; omega)
      have h2 := hi.2.1
      rw [Array.getD_eq_getD_getElem?] at h2
      rw [Array.getElem?_toList] at this
      rw [this] at h2
      cases h2
    exact ⟨hr, hall listed a w hs hr h⟩
  | succ fuel ih =>
    intro listed a w hs hc hdc h
    refine ⟨fun hr => hall listed a w hs hr h, fun i hi => ?_⟩
    unfold Region.ready at hi
    simp only [List.mem_filter, List.mem_range, Bool.and_eq_true, Bool.not_eq_true'] at hi
    obtain ⟨hin, hun, haf⟩ := hi
    have hoi : ops[i]? = some ops[i] := by rw [Array.getElem?_eq_getElem hin]
    rw [hoi] at haf
    simp only [Option.map_some, Option.getD_some, Array.all_eq_true_iff_forall_mem, Bool.or_eq_true, Bool.not_eq_true'] at haf
    have hDi : listed.getD i false = false := by
      rw [Array.getD_eq_getD_getElem?, Array.getElem?_eq_getElem (by omega)] at hun ⊢
      simpa using hun
    have hcl : ∀ k ∈ cls.getD i [], listed.getD k false = true := fun k hk => by
      obtain ⟨e, he, hb, ho⟩ := (hd i ops[i] (by simp [hin])).2 k hk
      have hl : listed.getD e.on false = true := by
        rcases haf e he with h | h
        · rw [hb] at h; cases h
        · exact h
      rcases ho with rfl | ho
      · exact hl
      · have := (hd i ops[i] (by simp [hin])).1 e he hb
        exact hdc e.on (by omega) hl k ho
    obtain ⟨s, hsi, hfi⟩ := hops i ops[i] (by simp [hin])
    obtain ⟨e, f, he, hf, hws, hwi, hst⟩ := l4 i s hsi
    have hfk : ∀ k, k < ops.size → ∃ e' f', es[k]? = some e' ∧ fs[k]? = some f' ∧ f'.ws = keys e'.sl ∧ f'.wi = keys e'.tab := fun k hk => by
      obtain ⟨s', hs', _⟩ := hops k ops[k] (by simp [hk])
      obtain ⟨e', f', a1, a2, a3, a4, _⟩ := l4 k s' hs'
      exact ⟨e', f', a1, a2, a3, a4⟩
    have apartS : ∀ {g f : Fx}, g.apart f = true → (∀ x ∈ g.ws, x ∉ f.rs ∧ x ∉ f.ws) ∧ (∀ x ∈ g.wi, x ∉ f.ri ∧ x ∉ f.wi) ∧ (∀ x ∈ f.ws, x ∉ g.rs) ∧ (∀ x ∈ f.wi, x ∉ g.ri) := fun h => by
      simp only [Fx.apart, Bool.and_eq_true] at h
      obtain ⟨⟨⟨⟨⟨h1, h2⟩, h3⟩, h4⟩, h5⟩, h6⟩ := h
      exact ⟨fun x hx => ⟨disj_spec h1 x hx, disj_spec h2 x hx⟩, fun x hx => ⟨disj_spec h3 x hx, disj_spec h4 x hx⟩, disj_spec h5, disj_spec h6⟩
    -- an earlier or a later one that meets this one is done, or not begun
    have low : ∀ k e', k < i → es[k]? = some e' → ((∃ t, t ∈ keys e'.sl ∧ (t ∈ f.rs ∨ t ∈ f.ws)) ∨ ∃ t, t ∈ keys e'.tab ∧ (t ∈ f.ri ∨ t ∈ f.wi)) → listed.getD k false = true := by
      intro k e' hk hke hm
      obtain ⟨e2, f', a1, a2, a3, a4⟩ := hfk k (by omega)
      rw [a1] at hke; cases hke
      rcases indep_spec hind hk a2 hf with hx | hx
      · exact hcl k hx
      · obtain ⟨b1, b2, _, _⟩ := apartS hx
        rcases hm with ⟨t, ht, hm⟩ | ⟨t, ht, hm⟩
        · have := b1 t (a3 ▸ ht); rcases hm with hm | hm
          · exact absurd hm this.1
          · exact absurd hm this.2
        · have := b2 t (a4 ▸ ht); rcases hm with hm | hm
          · exact absurd hm this.1
          · exact absurd hm this.2
    have high : ∀ k e', i < k → es[k]? = some e' → ((∃ t, t ∈ keys e'.sl ∧ (t ∈ f.rs ∨ t ∈ f.ws)) ∨ ∃ t, t ∈ keys e'.tab ∧ (t ∈ f.ri ∨ t ∈ f.wi)) → listed.getD k false = false := by
      intro k e' hk hke hm
      have hkn : k < ops.size := by
        have := (List.getElem?_eq_some_iff.1 hke).1
        omega
      obtain ⟨e2, f', a1, a2, a3, a4⟩ := hfk k hkn
      rw [a1] at hke; cases hke
      rcases indep_spec hind hk hf a2 with hx | hx
      · cases hlk : listed.getD k false with
        | false => rfl
        | true =>
          have := hdc k hkn hlk i hx
          rw [hDi] at this
          cases this
      · obtain ⟨b1, b2, b3, b4⟩ := apartS hx
        rcases hm with ⟨t, ht, hm⟩ | ⟨t, ht, hm⟩
        · rcases hm with hm | hm
          · exact absurd hm (b3 t (a3 ▸ ht))
          · exact absurd (a3 ▸ ht) (b1 t hm).2
        · rcases hm with hm | hm
          · exact absurd hm (b4 t (a4 ▸ ht))
          · exact absurd (a4 ▸ ht) (b2 t hm).2
    have mapget : ∀ {α : Type} (g : Eff → α) (k : Nat) (y : α), (es.map g)[k]? = some y → ∃ e', es[k]? = some e' ∧ g e' = y := fun g k y h => by
      simpa [List.getElem?_map] using h
    have hstep := hst (stD (fun i => listed.getD i false) es st)
      (fun t ht => fold_read (D := fun i => listed.getD i false) hDi (fun k y hk hy hty => by
        obtain ⟨e', h1, rfl⟩ := mapget _ k y hy
        exact low k e' hk h1 (.inl ⟨t, hty, .inl ht⟩)) (fun k y hk hy hty => by
        obtain ⟨e', h1, rfl⟩ := mapget _ k y hy
        exact high k e' hk h1 (.inl ⟨t, hty, .inl ht⟩)))
      (fun t ht => fold_read (D := fun i => listed.getD i false) hDi (fun k y hk hy hty => by
        obtain ⟨e', h1, rfl⟩ := mapget _ k y hy
        exact low k e' hk h1 (.inr ⟨t, hty, .inl ht⟩)) (fun k y hk hy hty => by
        obtain ⟨e', h1, rfl⟩ := mapget _ k y hy
        exact high k e' hk h1 (.inr ⟨t, hty, .inl ht⟩)))
    obtain ⟨φ, S, fp, hsim⟩ := h
    have hset : ∀ k, (listed.setIfInBounds i true).getD k false = if k = i then true else listed.getD k false := fun k => by
      rw [Array.getD_eq_getD_getElem?, Array.getElem?_setIfInBounds]
      by_cases hki : k = i
      · subst hki
        simp [hs, hin]
      · simp [hki, Ne.symm hki, Array.getD_eq_getD_getElem?]
    refine wpOp_mono (fun a' w' ⟨st', hst', hs'⟩ => ?_) (step_sound hoi hfi hsim (fun c h1 h2 hu => ?_) hstep)
    rotate_left
    · subst hst'
      refine ih _ a' w' (by simp [hs]) ?_ ?_ ?_
      · have hget : listed.toList[i]? = some false := by
          rw [Array.getElem?_toList, Array.getElem?_eq_getElem (by omega)]
          rw [Array.getD_eq_getD_getElem?, Array.getElem?_eq_getElem (by omega)] at hDi
          simpa using hDi
        have := cntF_set listed.toList i hget
        rw [Array.toList_setIfInBounds]
        omega
      · intro j hj hlj k hk
        rw [hset] at hlj ⊢
        split
        · rfl
        · rename_i hki
          by_cases hji : j = i
          · subst hji; exact hcl k hk
          · rw [if_neg hji] at hlj; exact hdc j hj hlj k hk
      · obtain ⟨φ2, S2, fp2, hs2⟩ := hs'
        refine Sim.of_same (st := (stD (fun i => listed.getD i false) es st).eff e) ⟨φ2, S2, fp2, hs2.mono fun c hc => ?_⟩ ⟨fun t => ?_, fun t => ?_⟩
        · rcases hc with (hc | ⟨j, h1, h2, h3⟩) | hc
          · exact .inl hc
          · refine .inr ⟨j, h1, ?_, h3⟩
            simp only [hset]
            split
            · rfl
            · exact h2
          · exact .inr ⟨i, hin, by simp only [hset, if_true], hc⟩
        · refine fold_step (D := fun i => listed.getD i false) (D' := fun k => (listed.setIfInBounds i true).getD k false) (i := i) (es := es.map (·.sl)) (e := e.sl) (by simp [he]) (by simp only [hset, if_true]) (fun k hk => by simp only [hset, if_neg hk]) (fun k y hk hy hty hte => ?_) (fun k y hk hy hty hte => ?_)
          · obtain ⟨e', h1, rfl⟩ := mapget _ k y hy
            exact low k e' hk h1 (.inl ⟨t, hty, .inr (hws ▸ hte)⟩)
          · obtain ⟨e', h1, rfl⟩ := mapget _ k y hy
            exact high k e' hk h1 (.inl ⟨t, hty, .inr (hws ▸ hte)⟩)
        · refine fold_step (D := fun i => listed.getD i false) (D' := fun k => (listed.setIfInBounds i true).getD k false) (i := i) (es := es.map (·.tab)) (e := e.tab) (by simp [he]) (by simp only [hset, if_true]) (fun k hk => by simp only [hset, if_neg hk]) (fun k y hk hy hty hte => ?_) (fun k y hk hy hty hte => ?_)
          · obtain ⟨e', h1, rfl⟩ := mapget _ k y hy
            exact low k e' hk h1 (.inr ⟨t, hty, .inr (hwi ▸ hte)⟩)
          · obtain ⟨e', h1, rfl⟩ := mapget _ k y hy
            exact high k e' hk h1 (.inr ⟨t, hty, .inr (hwi ▸ hte)⟩)
    · rcases hu with hu | ⟨j, j1, j2, j3, j4⟩
      · omega
      · have : j ≠ i := fun e => by subst e; exact absurd (show listed.getD j false = true from j2) (by rw [hDi]; simp)
        omega

theorem wp_region_draws {id : Nat} {a : Act} {w : World} (hm : P.follows .mixedOrders = true) (hfit : insFits P N ops.toList ops.toList ss = true) (hdep : depFit cls 0 ops.toList cls = true) (hQ : ∀ st' a w, K st' → Sim M w0 (· < nid + 16 * ss.length) N st' a w → Q .normal a w)
    (h : Sim M w0 (· < nid) N st a w) (hk : aopsD P cls nid st ss [] K) : (Code.region id ops true).wp P Q a w := by
  obtain ⟨es, fs, hch, hind, hK⟩ := aopsD_chain ss nid st [] hk
  refine wp_region_any hm ?_
  have hD : ∀ i, (Array.replicate ops.size false).getD i false = false := fun i => by
    rw [Array.getD_eq_getD_getElem?, Array.getElem?_replicate]
    split <;> rfl
  refine any_go hfit hdep hch (by simpa using hind) hQ hK _ _ _ _ (by simp) (by simp [cntF_rep]) (fun j _ hj => by rw [hD] at hj; cases hj) ?_
  obtain ⟨φ, S, fp, h⟩ := h
  have e0 : ∀ {α : Type} (es : List (List (Nat × α))) (k : Nat) (l : List (Nat × α)), foldD (fun i => (Array.replicate ops.size false).getD i false) k es l = l := by
    intro α es
    induction es with
    | nil => intro k l; rfl
    | cons e es ih => intro k l; simp only [foldD]; rw [ih]; simp only [hD, Bool.false_eq_true, if_false]
  refine ⟨φ, S, fp, ?_⟩
  have e1 : stD (fun i => (Array.replicate ops.size false).getD i false) es st = st := by simp only [stD, e0]
  rw [e1]
  exact SimX.mono (h.world (w' := { w with drawn := w.drawn + 1 }) rfl rfl rfl (Nat.le_refl _) (fun _ _ => rfl)) (fun i hi => .inl hi)
end
end Go.Vs
namespace Go.Vs
open Go.RowKit

/-- arithmetic behind names: what is reckoned with open numbers stays as it is written -/
structure G where
  wrap : IntKind → Int → Int
  lt : Int → Int → Bool
  le : Int → Int → Bool
  eq : Int → Int → Bool
  quo : Int → Int → Int
  rem : Int → Int → Int
  band : IntKind → Int → Int → Int
  bor : IntKind → Int → Int → Int
  bxor : IntKind → Int → Int → Int
  shl : IntKind → Int → Int → Int
  shr : IntKind → Int → Int → Int
  nat : Int → Nat
  int : Nat → Int
  add : Int → Int → Int
  sub : Int → Int → Int
  mul : Int → Int → Int
  cat : ByteArray → ByteArray → ByteArray
  seq : ByteArray → ByteArray → Bool
  slt : ByteArray → ByteArray → Bool
  sub3 : ByteArray → Int → Int → ByteArray
  byte : ByteArray → Int → Int
  llen : List (List R) → Int
  nadd : Nat → Nat → Nat
  nsub : Nat → Nat → Nat
  dlen : List (List D) → Nat
  dapp : List (List D) → Nat → List (List D) → List (List D)
  dset : List (List D) → Nat → List D → List (List D)
  drep : Int → List D → List (List D)
  rd : List (List D) → Nat → Nat → List (List R)
  rda : List (List D) → List (List R)
  up : List (List R) → List (List D)
  rsub : List (List R) → Int → Int → List (List R)
  dsub : List (List D) → Nat → Nat → List (List D)
  all : List Bool → Bool
  sle : ByteArray → ByteArray → Bool
  slen : ByteArray → Nat
structure G.Ok (g : G) : Prop where
  wrap : ∀ k n, g.wrap k n = k.wrap n
  lt : ∀ a b, g.lt a b = decide (a < b)
  le : ∀ a b, g.le a b = decide (a ≤ b)
  eq : ∀ a b, g.eq a b = (a == b)
  quo : ∀ a b, g.quo a b = a.tdiv b
  rem : ∀ a b, g.rem a b = a.tmod b
  band : ∀ k a b, g.band k a b = k.wrap (BitVec.ofInt k.bits a &&& BitVec.ofInt k.bits b).toNat
  bor : ∀ k a b, g.bor k a b = k.wrap (BitVec.ofInt k.bits a ||| BitVec.ofInt k.bits b).toNat
  bxor : ∀ k a b, g.bxor k a b = k.wrap (BitVec.ofInt k.bits a ^^^ BitVec.ofInt k.bits b).toNat
  shl : ∀ k x y, g.shl k x y = k.wrap (x * 2 ^ (min y.toNat k.bits))
  shr : ∀ k x y, g.shr k x y = x.fdiv (2 ^ (min y.toNat k.bits))
  nat : ∀ a, g.nat a = a.toNat
  int : ∀ n, g.int n = (n : Int)
  add : ∀ a b, g.add a b = a + b
  sub : ∀ a b, g.sub a b = a - b
  mul : ∀ a b, g.mul a b = a * b
  cat : ∀ a b, g.cat a b = a ++ b
  seq : ∀ a b, g.seq a b = (a.toList == b.toList)
  slt : ∀ a b, g.slt a b = Op.bytesLess a.toList b.toList
  sub3 : ∀ s l h, g.sub3 s l h = s.extract l.toNat h.toNat
  byte : ∀ s j, g.byte s j = ((s.data.getD j.toNat 0).toNat : Int)
  llen : ∀ es, g.llen es = (es.length : Int)
  nadd : ∀ a b, g.nadd a b = a + b
  nsub : ∀ a b, g.nsub a b = a - b
  dlen : ∀ es, g.dlen es = es.length
  dapp : ∀ es n news, g.dapp es n news = es.take n ++ news
  dset : ∀ es i e, g.dset es i e = es.set i e
  drep : ∀ j ds, g.drep j ds = List.replicate j.toNat ds
  rd : ∀ es lo n, g.rd es lo n = toRdss ((es.drop lo).take n)
  rda : ∀ es, g.rda es = toRdss es
  up : ∀ es, g.up es = es.map (·.map D.r)
  rsub : ∀ es l h, g.rsub es l h = (es.take h.toNat).drop l.toNat
  dsub : ∀ es lo n, g.dsub es lo n = (es.drop lo).take n
  all : ∀ l, g.all l = l.all id
  sle : ∀ a b, g.sle a b = (Op.bytesLess a.toList b.toList || a.toList == b.toList)
  slen : ∀ a, g.slen a = a.size
def G.real : G :={
  wrap k n := k.wrap n
  lt a b := decide (a < b)
  le a b := decide (a ≤ b)
  eq a b := a == b
  quo a b := a.tdiv b
  rem a b := a.tmod b
  band k a b := k.wrap (BitVec.ofInt k.bits a &&& BitVec.ofInt k.bits b).toNat
  bor k a b := k.wrap (BitVec.ofInt k.bits a ||| BitVec.ofInt k.bits b).toNat
  bxor k a b := k.wrap (BitVec.ofInt k.bits a ^^^ BitVec.ofInt k.bits b).toNat
  shl k x y := k.wrap (x * 2 ^ (min y.toNat k.bits))
  shr k x y := x.fdiv (2 ^ (min y.toNat k.bits))
  nat a := a.toNat
  int n := (n : Int)
  add a b := a + b
  sub a b := a - b
  mul a b := a * b
  cat a b := a ++ b
  seq a b := a.toList == b.toList
  slt a b := Op.bytesLess a.toList b.toList
  sub3 s l h := s.extract l.toNat h.toNat
  byte s j := ((s.data.getD j.toNat 0).toNat : Int)
  llen es := (es.length : Int)
  nadd a b := a + b
  nsub a b := a - b
  dlen es := es.length
  dapp es n news := es.take n ++ news
  dset es i e := es.set i e
  drep j ds := List.replicate j.toNat ds
  rd es lo n := toRdss ((es.drop lo).take n)
  rda es := toRdss es
  up es := es.map (·.map D.r)
  rsub es l h := (es.take h.toNat).drop l.toNat
  dsub es lo n := (es.drop lo).take n
  all l := l.all id
  sle a b := Op.bytesLess a.toList b.toList || a.toList == b.toList
  slen a := a.size }
theorem G.real_ok : G.real.Ok := ⟨fun _ _ => rfl, fun _ _ => rfl, fun _ _ => rfl, fun _ _ => rfl, fun _ _ => rfl, fun _ _ => rfl, fun _ _ _ => rfl, fun _ _ _ => rfl, fun _ _ _ => rfl, fun _ _ _ => rfl, fun _ _ _ => rfl, fun _ => rfl, fun _ => rfl, fun _ _ => rfl, fun _ _ => rfl, fun _ _ => rfl, fun _ _ => rfl, fun _ _ => rfl, fun _ _ => rfl, fun _ _ _ => rfl, fun _ _ => rfl, fun _ => rfl, fun _ _ => rfl, fun _ _ => rfl, fun _ => rfl, fun _ _ _ => rfl, fun _ _ _ => rfl, fun _ _ => rfl, fun _ _ _ => rfl, fun _ => rfl, fun _ => rfl, fun _ _ _ => rfl, fun _ _ _ => rfl, fun _ => rfl, fun _ _ => rfl, fun _ => rfl⟩

/-- a side condition, and a value -/
def Sd : Option (Unit → Prop) → Prop
  | none => True
  | some c => c ()
abbrev Cn := Option (Unit → Prop)
def cAnd : Cn → Cn → Cn
  | none, q => q
  | p, none => p
  | some p, some q => some fun _ => p () ∧ q ()
theorem cAnd_spec {p q : Cn} (h : Sd (cAnd p q)) : Sd p ∧ Sd q := by
  cases p <;> cases q <;> simp_all [cAnd, Sd]
structure Si where
  c : Option (Unit → Prop)
  v : V
structure St2 where
  c : Option (Unit → Prop)
  v : V
  s : St

def gInt (g : G) (op : BinOp) (k : IntKind) (a b : Int) : Option (Option (Unit → Prop) × Value) :=
  match op with
  | .add => some (none, .int k (g.wrap k (g.add a b)))
  | .sub => some (none, .int k (g.wrap k (g.sub a b)))
  | .mul => some (none, .int k (g.wrap k (g.mul a b)))
  | .quo => some (some (fun _ => b ≠ 0), .int k (g.wrap k (g.quo a b)))
  | .rem => some (some (fun _ => b ≠ 0), .int k (g.rem a b))
  | .and => some (none, .int k (g.band k a b))
  | .or => some (none, .int k (g.bor k a b))
  | .xor => some (none, .int k (g.bxor k a b))
  | .eql => some (none, .bool (g.eq a b))
  | .neq => some (none, .bool (!g.eq a b))
  | .lss => some (none, .bool (g.lt a b))
  | .leq => some (none, .bool (g.le a b))
  | .gtr => some (none, .bool (g.lt b a))
  | .geq => some (none, .bool (g.le b a))
  | _ => none
def gStr (g : G) (op : BinOp) (a b : ByteArray) : Option (Option (Unit → Prop) × Value) :=
  match op with
  | .add => some (some (fun _ => ((a.size + b.size : Nat) : Int) ≤ IntKind.i64.max), .string (g.cat a b))
  | .eql => some (none, .bool (g.seq a b))
  | .neq => some (none, .bool (!g.seq a b))
  | .lss => some (none, .bool (g.slt a b))
  | .leq => some (none, .bool (g.sle a b))
  | .gtr => some (none, .bool (!g.sle a b))
  | .geq => some (none, .bool (!g.slt a b))
  | _ => none
def gBin (g : G) (op : BinOp) (kd : Kd) (a b : V) : Option Si :=
  match kd, a, b with
  | .i, .c (.r (.v (.int k x))), .c (.r (.v (.int k' y))) =>
    if op = .shl then some ⟨some (fun _ => 0 ≤ y), .c (.r (.v (.int k (g.shl k x y))))⟩
    else if op = .shr then some ⟨some (fun _ => 0 ≤ y), .c (.r (.v (.int k (g.shr k x y))))⟩
    else if k = k' then (gInt g op k x y).map fun p => ⟨p.1, V.v p.2⟩ else none
  | .s, .c (.r (.v (.string x))), .c (.r (.v (.string y))) => (gStr g op x y).map fun p => ⟨p.1, V.v p.2⟩
  | .b, .c (.r (.v (.bool x))), .c (.r (.v (.bool y))) => if op = .eql then some ⟨none, V.b (x == y)⟩ else if op = .neq then some ⟨none, V.b (!(x == y))⟩ else none
  | _, _, _ => none
theorem gBin_spec {g : G} (hg : g.Ok) {op : BinOp} {kd : Kd} {a b : V} {p : Si} (h : gBin g op kd a b = some p) (hc : Sd p.c) : exBin op kd a b = some p.v := by
  unfold gBin at h
  split at h
  · rename_i k x k' y
    split at h
    · rename_i hs; subst hs; cases h
      have : ¬ y < 0 := by have : 0 ≤ y := hc; omega
      simp [exBin, this, hg.shl]
    · rename_i hs1
      split at h
      · rename_i hs; subst hs; cases h
        have : ¬ y < 0 := by have : 0 ≤ y := hc; omega
        simp [exBin, this, hg.shr]
      · rename_i hs2
        split at h
        · rename_i hk
          subst hk
          simp only [Option.map_eq_some_iff] at h
          obtain ⟨⟨c, v⟩, h1, rfl⟩ := h
          simp only [exBin, hs1, hs2, if_false, if_true]
          simp only [Sd] at hc
          cases op <;> simp only [gInt, Option.some.injEq, Prod.mk.injEq, reduceCtorEq] at h1 <;> obtain ⟨h2, rfl⟩ := h1 <;> (try rw [← h2] at hc) <;> (try clear h2) <;> simp_all [intBin, hg.wrap, hg.add, hg.sub, hg.mul, hg.quo, hg.rem, hg.band, hg.bor, hg.bxor, hg.eq, hg.lt, hg.le, bne]
        · cases h
  · rename_i x y
    simp only [Option.map_eq_some_iff] at h
    obtain ⟨⟨c, v⟩, h1, rfl⟩ := h
    simp only [Sd] at hc
    simp only [exBin]
    cases op <;> simp only [gStr, Option.some.injEq, Prod.mk.injEq, reduceCtorEq] at h1 <;> obtain ⟨h2, rfl⟩ := h1 <;> (try rw [← h2] at hc) <;> (try clear h2) <;> simp_all [strBin, hg.cat, hg.seq, hg.slt, hg.sle]
  · rename_i x y
    split at h
    · rename_i hs; cases h; simp [exBin, hs]
    · rename_i hs1
      split at h
      · rename_i hs; cases h; simp [exBin, hs]
      · cases h
  · cases h

def gEqV (g : G) : Kd → Value → Value → Option Bool
  | .i, .int k a, .int k' b => if k = k' then some (g.eq a b) else none
  | .b, .bool a, .bool b => some (a == b)
  | .s, .string a, .string b => some (g.seq a b)
  | _, _, _ => none
def gEqL (g : G) : List Kd → List C → List C → Option (List Bool)
  | [], [], [] => some []
  | kd :: ks, .r (.v x) :: xs, .r (.v y) :: ys => match gEqV g kd x y with
    | some b => match gEqL g ks xs ys with
      | some c => some (b :: c)
      | none => none
    | none => none
  | _, _, _ => none
def gEqs (g : G) (neg : Bool) (ks : List Kd) : V → V → Option V
  | .g xs, .g ys => match gEqL g ks xs ys with
    | some bs => match neg with
      | true => some (V.b (!g.all bs))
      | false => some (V.b (g.all bs))
    | none => none
  | _, _ => none
theorem gEqs_spec {g : G} (hg : g.Ok) {neg : Bool} {ks : List Kd} {a b : V} {v : V} (h : gEqs g neg ks a b = some v) : exEqs neg ks a b = some v := by
  have h1 : ∀ kd x y, gEqV g kd x y = eqV kd x y := fun kd x y => by
    unfold gEqV eqV
    split <;> simp_all [hg.eq, hg.seq]
  have h2 : ∀ ks xs ys bs, gEqL g ks xs ys = some bs → eqCs ks xs ys = some (bs.all id) := by
    intro ks
    induction ks with
    | nil =>
      intro xs ys bs h
      cases xs <;> cases ys <;> simp_all [gEqL, eqCs]
    | cons kd ks ih =>
      intro xs ys bs h
      unfold gEqL at h
      split at h
      · simp_all
      · rename_i kd' ks' x xs' y ys' e1
        cases e1
        split at h
        · rename_i b hb
          split at h
          · rename_i c hc
            cases h
            rw [h1] at hb
            simp [eqCs, hb, ih _ _ _ hc]
          · cases h
        · cases h
      · cases h
  unfold gEqs at h
  split at h
  · split at h
    · rename_i bs hbs
      cases neg <;> simp at h <;> subst h <;> simp [exEqs, h2 _ _ _ _ hbs, hg.all]
    · cases h
  · cases h

inductive IaR where
  | own (c : Unit → Prop) (v : V)
  | ro (es : List (List R)) (j : Int)
def plus (g : G) : Nat → Nat → Nat
  | 0, m => m
  | n, m => g.nadd n m
theorem plus_eq {g : G} (hg : g.Ok) (n m : Nat) : plus g n m = n + m := by unfold plus; split <;> simp [hg.nadd]
def gIa (g : G) (k : Nat) : V → V → Option IaR
  | .c (.f id k' lo n), .c (.r (.v (.int _ j))) => if k' = k then some (.own (fun _ => 0 ≤ j ∧ j < n) (.c (.p id k (plus g lo (g.nat j)) 0))) else none
  | .c (.r (.s k' es)), .c (.r (.v (.int _ j))) => if k' = k then some (.ro es j) else none
  | _, _ => none
theorem gIa_own {g : G} (hg : g.Ok) {k : Nat} {a b v : V} {c : Unit → Prop} (h : gIa g k a b = some (.own c v)) (hc : c ()) : exIa k a b = some v := by
  unfold gIa at h
  split at h
  · split at h
    · rename_i hk; subst hk; cases h; simp [exIa, hc.1, hc.2, hg.nat, plus_eq hg]
    · cases h
  · split at h
    · cases h
    · cases h
  · cases h
theorem gIa_ro {g : G} {k : Nat} {a b : V} {es : List (List R)} {j : Int} {e : List R} (h : gIa g k a b = some (.ro es j)) (h0 : 0 ≤ j) (he : es[j.toNat]? = some e) : exIa k a b = some (V.q e) := by
  unfold gIa at h
  split at h
  · split at h
    · cases h
    · cases h
  · split at h
    · rename_i hk; subst hk; cases h; simp [exIa, h0, he]
    · cases h
  · cases h
def gIdx (g : G) : V → V → Option Si
  | .c (.r (.v (.string s))), .c (.r (.v (.int _ j))) => some ⟨some (fun _ => 0 ≤ j ∧ j < s.size), .c (.r (.v (.int .u8 (g.byte s j))))⟩
  | _, _ => none
theorem gIdx_spec {g : G} (hg : g.Ok) {a b : V} {p : Si} (h : gIdx g a b = some p) (hc : Sd p.c) : exIdx a b = some p.v := by
  unfold gIdx at h
  split at h
  · rename_i s kd j
    cases h
    simp only [Sd] at hc
    have hlt : j.toNat < s.data.size := by have := hc.2; have : s.data.size = s.size := rfl; omega
    simp only [exIdx, hc.1, if_true]
    rw [Array.getElem?_eq_getElem hlt]
    simp [hg.byte, Array.getD_eq_getD_getElem?, Array.getElem?_eq_getElem hlt]
  · cases h
def gLen (g : G) (str : Bool) : V → Option V
  | .c (.r (.s _ es)) => if str then none else some (V.i (g.llen es))
  | .c (.f _ _ _ n) => if str then none else some (V.i (g.int n))
  | .c (.n _) => if str then none else some (V.i 0)
  | .c (.r (.v (.string s))) => if str then some (V.i (g.int (g.slen s))) else none
  | _ => none
theorem gLen_spec {g : G} (hg : g.Ok) {str : Bool} {a : V} : gLen g str a = exLen str a := by
  unfold gLen exLen
  split <;> simp_all [hg.int, hg.llen, hg.slen]
/-- a part of a slice: of an own one, or of one that is only read -/
inductive SlR where
  | own (c : Unit → Prop) (v : V)
  | ro (c : Unit → Prop) (es : List (List R))
def gSl (g : G) (k : Nat) (l h : Option Int) (hn : Bool) : V → Option SlR
  | .c (.f id k' l0 n) => match l, (match hn with | true => some (g.int n) | false => h) with
    | some l, some h => match Nat.beq k' k with
      | true => some (.own (fun _ => 0 ≤ l ∧ l ≤ h ∧ h ≤ n) (.c (.f id k (plus g l0 (g.nat l)) (g.nsub (g.nat h) (g.nat l)))))
      | false => none
    | _, _ => none
  | .c (.r (.s k' es)) => match l, (match hn with | true => some (g.llen es) | false => h) with
    | some l, some h => match Nat.beq k' k with
      | true => some (.ro (fun _ => 0 ≤ l ∧ l ≤ h ∧ h ≤ es.length) (g.rsub es l h))
      | false => none
    | _, _ => none
  | _ => none
theorem gSl_own {g : G} (hg : g.Ok) {k : Nat} {l h : Option Int} {hn : Bool} {a : V} {c : Unit → Prop} {v : V} (he : gSl g k l h hn a = some (.own c v)) (hc : c ()) : exSl k l h hn a = some v := by
  unfold gSl at he
  split at he
  · rename_i id k' l0 n
    split at he
    · rename_i l' h' e2
      split at he
      · rename_i hk
        have hk := Nat.eq_of_beq_eq_true hk
        subst hk; cases he
        have e2 : (if hn = true then some (n : Int) else h) = some h' := by
          rw [hg.int] at e2
          cases hn <;> simpa using e2
        simp only [exSl]
        rw [e2]
        simp [hc.1, hc.2.1, hc.2.2, hg.nat, hg.nsub, plus_eq hg]
      · cases he
    · cases he
  · split at he
    · split at he
      · cases he
      · cases he
    · cases he
  · cases he
theorem gSl_ro {g : G} (hg : g.Ok) {k : Nat} {l h : Option Int} {hn : Bool} {a : V} {c : Unit → Prop} {r : List (List R)} (he : gSl g k l h hn a = some (.ro c r)) (hc : c ()) : exSl k l h hn a = some (.c (.r (.s k r))) := by
  unfold gSl at he
  split at he
  · split at he
    · split at he
      · cases he
      · cases he
    · cases he
  · rename_i k' es
    split at he
    · rename_i l' h' e2
      split at he
      · rename_i hk
        have hk := Nat.eq_of_beq_eq_true hk
        subst hk; cases he
        have e2 : (if hn = true then some (es.length : Int) else h) = some h' := by
          rw [hg.llen] at e2
          cases hn <;> simpa using e2
        simp only [exSl]
        rw [e2]
        simp [hc.1, hc.2.1, hc.2.2, hg.rsub]
      · cases he
    · cases he
  · cases he
def gSsl (g : G) (l h : Option Int) (hn : Bool) : V → Option Si
  | .c (.r (.v (.string s))) => match l, (match hn with | true => some (g.int (g.slen s)) | false => h) with
    | some l, some h => some ⟨some (fun _ => 0 ≤ l ∧ l ≤ h ∧ h ≤ s.size), .c (.r (.v (.string (g.sub3 s l h))))⟩
    | _, _ => none
  | _ => none
theorem gSsl_spec {g : G} (hg : g.Ok) {l h : Option Int} {hn : Bool} {a : V} {p : Si} (he : gSsl g l h hn a = some p) (hc : Sd p.c) : exSsl l h hn a = some p.v := by
  unfold gSsl at he
  split at he
  · rename_i s
    split at he
    · rename_i l' h' e2
      cases he; simp only [Sd] at hc
      have e2 : (if hn = true then some ((s.size : Nat) : Int) else h) = some h' := by
        rw [hg.int, hg.slen] at e2
        cases hn <;> simpa using e2
      simp only [exSsl]
      rw [e2]
      simp [hc.1, hc.2.1, hc.2.2, hg.sub3]
    · cases he
  · cases he
def gCvt (g : G) (k : IntKind) : V → Option V
  | .c (.r (.v (.int _ n))) => some (.c (.r (.v (.int k (g.wrap k n)))))
  | _ => none
def gNeg (g : G) : V → Option V
  | .c (.r (.v (.int k n))) => some (.c (.r (.v (.int k (g.wrap k (g.sub 0 n))))))
  | _ => none
def rowOf (kk : Nat) : Option Ent → Option (List (List D))
  | some (.arr k0 es) => if k0 = kk then some es else none
  | _ => none
theorem rowOf_spec {kk : Nat} {e : Option Ent} {es : List (List D)} (h : rowOf kk e = some es) : e = some (.arr kk es) := by
  unfold rowOf at h
  split at h
  · split at h
    · rename_i hk; subst hk; cases h; rfl
    · cases h
  · cases h
def gAbsorb (st : St) : List C → Option (List D × St × Cn)
  | [] => some ([], st, none)
  | .r x :: r => match gAbsorb st r with
    | some (ds, s, c) => some (.r x :: ds, s, c)
    | none => none
  | .n k :: r => match gAbsorb st r with
    | some (ds, s, c) => some (.o k [] :: ds, s, c)
    | none => none
  | .f id k lo n :: r => match rowOf k (st.ent id) with
    | some es => match gAbsorb (st.kill id) r with
      | some (ds, s, c) => some (.o k es :: ds, s, cAnd (some fun _ => lo = 0 ∧ n = es.length) c)
      | none => none
    | none => none
  | _ => none
theorem gAbsorb_spec : ∀ {cs : List C} {st s : St} {ds : List D} {c : Cn}, gAbsorb st cs = some (ds, s, c) → Sd c → absorb st cs = some (ds, s)
  | [], st, s, ds, c, h, _ => by simp [gAbsorb] at h; simp [absorb, h.1, h.2.1]
  | x :: cs, st, s, ds, c, h, hc => by
    cases x with
    | r x =>
      simp only [gAbsorb] at h
      split at h
      · rename_i hh; cases h; simp [absorb, gAbsorb_spec hh hc]
      · cases h
    | n k =>
      simp only [gAbsorb] at h
      split at h
      · rename_i hh; cases h; simp [absorb, gAbsorb_spec hh hc]
      · cases h
    | f id k lo n =>
      simp only [gAbsorb] at h
      split at h
      · rename_i es hrow
        split at h
        · rename_i hh; cases h
          obtain ⟨⟨h1, h2⟩, h3⟩ := cAnd_spec hc
          subst h1
          subst h2
          simp [absorb, rowOf_spec hrow, gAbsorb_spec hh h3]
        · cases h
      · cases h
    | p id k i off => simp [gAbsorb] at h
    | un => simp [gAbsorb] at h
def gAbsorbs (k : Nat) (st : St) : List V → Option (List (List D) × St × Cn)
  | [] => some ([], st, none)
  | v :: vs => match vCells v with
    | some cs => match Nat.beq cs.length k, Cs.solid cs with
      | true, true => match gAbsorb st cs with
        | some (ds, st1, c) => match gAbsorbs k st1 vs with
          | some (es, s, c') => some (ds :: es, s, cAnd c c')
          | none => none
        | none => none
      | _, _ => none
    | none => none
theorem gAbsorbs_spec {k : Nat} : ∀ {vs : List V} {st s : St} {es : List (List D)} {c : Cn}, gAbsorbs k st vs = some (es, s, c) → Sd c → absorbs k st vs = some (es, s)
  | [], st, s, es, c, h, _ => by simp [gAbsorbs] at h; simp [absorbs, h.1, h.2.1]
  | v :: vs, st, s, es, c, h, hc => by
    simp only [gAbsorbs] at h
    split at h
    · rename_i cs hcs
      split at h
      · rename_i hb1 hb2
        split at h
        · rename_i ds st1 c1 hab
          split at h
          · rename_i hh; cases h
            simp only [absorbs, hcs, if_pos (And.intro (Nat.eq_of_beq_eq_true hb1) hb2), gAbsorb_spec hab (cAnd_spec hc).1, gAbsorbs_spec hh (cAnd_spec hc).2]
            rfl
          · cases h
        · cases h
      · cases h
    · cases h
def gSrc (g : G) (k : Nat) (mv : Bool) (st : St) : V → Option (List (List D) × St × Cn)
  | .c (.n _) => some ([], st, none)
  | .c (.r (.s k' es)) => if k' = k then some (g.up es, st, none) else none
  | .c (.f id k' lo n) => match rowOf k (st.ent id) with
    | some es => if k' = k then (match mv with
      | true => some (es, st.kill id, some fun _ => lo = 0 ∧ n = es.length)
      | false => some (g.dsub es lo n, st, some fun _ => lo + n ≤ es.length ∧ flatDs ((es.drop lo).take n) = true)) else none
    | none => none
  | _ => none
theorem gSrc_spec {g : G} (hg : g.Ok) {k : Nat} {mv : Bool} {st s : St} {v : V} {es : List (List D)} {c : Cn} (h : gSrc g k mv st v = some (es, s, c)) (hc : Sd c) : srcOf k mv st v = some (es, s) := by
  unfold gSrc at h
  split at h
  · cases h; rfl
  · split at h
    · rename_i hk; cases h; simp [srcOf, hk, hg.up]
    · cases h
  · split at h
    · rename_i es0 hrow
      have hr := rowOf_spec hrow
      split at h
      · rename_i hk
        split at h
        · cases h
          obtain ⟨h1, h2⟩ := hc
          simp [srcOf, hr, hk, h1, h2]
        · cases h
          obtain ⟨h1, h2⟩ := hc
          simp [srcOf, hr, hk, h1, h2, hg.dsub]
      · cases h
    · cases h
  · cases h
/-- what makes an own row: condition, rows, length, the state without what was given up -/
structure NewR where
  c : Cn
  es : List (List D)
  n : Nat
  s : St
def gApp (g : G) (k bytes : Nat) (mv : Bool) (sv xv : V) (st : St) : Option NewR :=
  match gSrc g k mv st xv with
  | none => none
  | some (news, st1, c) => match sv with
    | .c (.n k') => match Nat.beq k' k with
      | true => some ⟨cAnd c (some fun _ => news.length ≤ maxLen ∧ news.length * bytes ≤ 140737488355328), news, g.dlen news, st1⟩
      | false => none
    | .c (.f id k' lo n) => match rowOf k (st1.ent id) with
      | some es => match Nat.beq k' k with
        | true => some ⟨cAnd c (some fun _ => lo = 0 ∧ n ≤ es.length ∧ n + news.length ≤ maxLen ∧ (n + news.length) * bytes ≤ 140737488355328), g.dapp es n news, g.nadd n (g.dlen news), st1.kill id⟩
        | false => none
      | none => none
    | _ => none
theorem gApp_spec {g : G} (hg : g.Ok) {nid k bytes : Nat} {mv : Bool} {sv xv : V} {st : St} {p : NewR} (h : gApp g k bytes mv sv xv st = some p) (hc : Sd p.c) : exApp nid k bytes mv sv xv st = some (.c (.f nid k 0 p.n), p.s.set nid (.arr k p.es)) := by
  unfold gApp at h
  split at h
  · cases h
  · rename_i news st1 c hsrc
    split at h
    · split at h
      · rename_i hk
        have hk := Nat.eq_of_beq_eq_true hk
        cases h; obtain ⟨h1, h2, h3⟩ := cAnd_spec hc; simp [exApp, gSrc_spec hg hsrc h1, h2, h3, hk, hg.dlen]
      · cases h
    · split at h
      · rename_i es hent
        split at h
        · rename_i hk
          have hk := Nat.eq_of_beq_eq_true hk
          cases h
          obtain ⟨h1, h2, h3, h4, h5⟩ := cAnd_spec hc
          simp [exApp, gSrc_spec hg hsrc h1, rowOf_spec hent, h2, h3, h4, h5, hk, hg.dlen, hg.dapp, hg.nadd]
        · cases h
      · cases h
    · cases h
def gMk (g : G) (k bytes : Nat) (zs : List C) (l : V) (st : St) : Option NewR :=
  match l, plainD zs with
  | .c (.r (.v (.int _ j))), some ds => match Nat.beq zs.length k with
    | true => some ⟨some fun _ => 0 ≤ j ∧ (bytes : Int) * j ≤ 281474976710656 ∧ j ≤ 9223372036854775807, g.drep j ds, g.nat j, st⟩
    | false => none
  | _, _ => none
theorem gMk_spec {g : G} (hg : g.Ok) {nid k bytes : Nat} {zs : List C} {l : V} {st : St} {p : NewR} (h : gMk g k bytes zs l st = some p) (hc : Sd p.c) : exMk nid k bytes zs l st = some (.c (.f nid k 0 p.n), p.s.set nid (.arr k p.es)) := by
  unfold gMk at h
  split at h
  · rename_i kd j ds hds
    split at h
    · rename_i hk
      have hk := Nat.eq_of_beq_eq_true hk
      subst hk; cases h; simp only [Sd] at hc; simp [exMk, hds, hc.1, hc.2.1, hc.2.2, hg.nat, hg.drep]
    · cases h
  · cases h
def gBsl (k : Nat) (xs : List O) (st : St) : Option NewR :=
  match gAbsorbs k st (xs.map st.ev) with
  | some (es, s, c) => some ⟨c, es, xs.length, s⟩
  | none => none
theorem gBsl_spec {nid k : Nat} {xs : List O} {st : St} {p : NewR} (h : gBsl k xs st = some p) (hc : Sd p.c) : exBsl nid k xs st = some (.c (.f nid k 0 p.n), p.s.set nid (.arr k p.es)) := by
  unfold gBsl at h
  split at h
  · rename_i hh; cases h; simp [exBsl, gAbsorbs_spec hh hc]
  · cases h
def gNew (g : G) (st : St) : I → Option (Nat × NewR)
  | .app k bytes mv s x => match gApp g k bytes mv (st.ev s) (st.ev x) st with
    | some p => some (k, p)
    | none => none
  | .mk k bytes zs l => match gMk g k bytes zs (st.ev l) st with
    | some p => some (k, p)
    | none => none
  | .bsl k xs => match gBsl k xs st with
    | some p => some (k, p)
    | none => none
  | _ => none
theorem gNew_spec {g : G} (hg : g.Ok) {nid k : Nat} {st : St} {i : I} {p : NewR} (h : gNew g st i = some (k, p)) (hc : Sd p.c) : ex nid st i = some (.c (.f nid k 0 p.n), p.s.set nid (.arr k p.es)) := by
  unfold gNew at h
  split at h
  · split at h
    · rename_i hh; cases h; simp only [ex]; exact gApp_spec hg hh hc
    · cases h
  · split at h
    · rename_i hh; cases h; simp only [ex]; exact gMk_spec hg hh hc
    · cases h
  · split at h
    · rename_i hh; cases h; simp only [ex]; exact gBsl_spec hh hc
    · cases h
  · cases h

def gEx (g : G) (nid : Nat) (st : St) : I → Option St2
  | .mv x => some ⟨none, st.ev x, st⟩
  | .alloc cs => some ⟨none, .c (.p nid cs.length 0 0), st.set nid (bxEnt cs)⟩
  | .box x => match vCells (st.ev x) with
    | some cs => if Cs.solid cs = true then some ⟨none, .c (.p nid cs.length 0 0), st.set nid (bxEnt cs)⟩ else none
    | none => none
  | .ld agg k p => (exLd agg k (st.ev p) st).map fun v => ⟨none, v, st⟩
  | .st k p x => (exSt k (st.ev p) (st.ev x) st).map fun s => ⟨none, .c .un, s⟩
  | .fa off p => (exFa off (st.ev p)).map fun v => ⟨none, v, st⟩
  | .fld agg off k x => (exFld agg off k (st.ev x)).map fun v => ⟨none, v, st⟩
  | .ia _ _ _ => none
  | .idx x i => (gIdx g (st.ev x) (st.ev i)).map fun p => ⟨p.c, p.v, st⟩
  | .bin op kd x y => (gBin g op kd (st.ev x) (st.ev y)).map fun p => ⟨p.c, p.v, st⟩
  | .eqs neg ks x y => (gEqs g neg ks (st.ev x) (st.ev y)).map fun v => ⟨none, v, st⟩
  | .not x => (exNot (st.ev x)).map fun v => ⟨none, v, st⟩
  | .neg x => (gNeg g (st.ev x)).map fun v => ⟨none, v, st⟩
  | .len str x => (gLen g str (st.ev x)).map fun v => ⟨none, v, st⟩
  | .app _ _ _ _ _ => none
  | .mk _ _ _ _ => none
  | .bsl _ _ => none
  | .bld zs parts => (fillC st zs parts).map fun r => ⟨none, .g r, st⟩
  | .sl _ _ _ _ => none
  | .ssl x lo hi => (gSsl g (boundOf st 0 lo) (hi.bind fun z => intV (st.ev z)) hi.isNone (st.ev x)).map fun p => ⟨p.c, p.v, st⟩
  | .cvt k x => (gCvt g k (st.ev x)).map fun v => ⟨none, v, st⟩
  | .ext i x => (exExt i (st.ev x)).map fun v => ⟨none, v, st⟩
  | .nilc x => (exNilc (st.ev x)).map fun v => ⟨none, v, st⟩
  | .pick c x y => (exPick (st.ev c) (st.ev x) (st.ev y)).map fun v => ⟨none, v, st⟩
  | .call _ _ _ => none
theorem gEx_spec {g : G} (hg : g.Ok) {nid : Nat} {st : St} {i : I} {p : St2} (h : gEx g nid st i = some p) (hc : Sd p.c) : ex nid st i = some (p.v, p.s) := by
  have one : ∀ {f : Option V}, (f.map fun v => (⟨none, v, st⟩ : St2)) = some p → (f.map fun v => (v, st)) = some (p.v, p.s) := by
    intro f hm
    simp only [Option.map_eq_some_iff] at hm ⊢
    obtain ⟨v', h1, rfl⟩ := hm
    exact ⟨v', h1, rfl⟩
  have two : ∀ {f : Option Si} {f' : Option V}, (∀ q, f = some q → Sd q.c → f' = some q.v) → (f.map fun q => (⟨q.c, q.v, st⟩ : St2)) = some p → (f'.map fun v => (v, st)) = some (p.v, p.s) := by
    intro f f' hf hm
    simp only [Option.map_eq_some_iff] at hm ⊢
    obtain ⟨q, h1, rfl⟩ := hm
    exact ⟨q.v, hf q h1 hc, rfl⟩
  cases i with
  | mv x => cases h; rfl
  | alloc cs => cases h; rfl
  | box x =>
    simp only [gEx] at h
    simp only [ex]
    split at h
    · rename_i cs hcs
      split at h
      · rename_i hs; cases h; simp [hcs, hs]
      · cases h
    · cases h
  | ld agg k q => exact one h
  | st k q x =>
    simp only [gEx, Option.map_eq_some_iff] at h
    obtain ⟨s, h1, rfl⟩ := h
    simp [ex, h1]
  | fa off q => exact one h
  | fld agg off k x => exact one h
  | ia k x j => cases h
  | idx x j => exact two (fun q h1 h2 => gIdx_spec hg h1 h2) h
  | bin op kd x y => exact two (fun q h1 h2 => gBin_spec hg h1 h2) h
  | eqs neg ks x y =>
    simp only [gEx, Option.map_eq_some_iff] at h
    obtain ⟨v, h1, rfl⟩ := h
    simp [ex, gEqs_spec hg h1]
  | not x => exact one h
  | neg x =>
    have : ∀ v, gNeg g v = exNeg v := fun v => by unfold gNeg exNeg; split <;> simp_all [hg.wrap, hg.sub]
    simp only [gEx] at h; rw [this] at h; exact one h
  | len str x => simp only [gEx] at h; rw [gLen_spec hg] at h; exact one h
  | app k bytes mv s x => cases h
  | mk k bytes zs l => cases h
  | bsl k xs => cases h
  | bld zs parts =>
    simp only [gEx, Option.map_eq_some_iff] at h
    obtain ⟨r, h1, rfl⟩ := h
    simp [ex, h1]
  | sl k x lo hi => cases h
  | ssl x lo hi => exact two (fun q h1 h2 => gSsl_spec hg h1 h2) h
  | cvt k x =>
    have : ∀ v, gCvt g k v = exCvt k v := fun v => by unfold gCvt exCvt; split <;> simp_all [hg.wrap]
    simp only [gEx] at h; rw [this] at h; exact one h
  | ext i x => exact one h
  | nilc x => exact one h
  | pick c x y => exact one h
  | call f own xs => cases h
theorem G.Ok.unique {g : G} (h : g.Ok) : g = G.real := by
  obtain ⟨h1, h2, h3, h4, h5, h6, h7, h8, h9, h10, h11, h12, h13, h14, h15, h16, h17, h18, h19, h20, h21, h22, h23, h24, h25, h26, h27, h28, h29, h30, h31, h32, h33, h34, h35, h36⟩ := h
  obtain ⟨wrap, lt, le, eq, quo, rem, band, bor, bxor, shl, shr, nat, int, add, sub, mul, cat, seq, slt, sub3, byte, llen, nadd, nsub, dlen, dapp, dset, drep, rd, rda, up, rsub, dsub, all, sle, slen⟩ := g
  unfold G.real
  congr <;> funext <;> simp_all
end Go.Vs
