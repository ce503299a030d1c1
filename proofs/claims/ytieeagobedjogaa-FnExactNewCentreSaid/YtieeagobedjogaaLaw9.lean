/- The law FnExactNewCentre holds: whatever its arguments, the call returns true and leaves them as they were. No condition. -/
import Derived.Test.YtieeagobedjogaaMarks
import Derived.Test.YtieeagobedjogaaLag
import Derived.Test.YtieeagobedjogaaIs
import Derived.Test.YtieeagobedjogaaOrder
import Derived.Test.YtieeagobedjogaaRows
set_option linter.unusedVariables false
set_option linter.unusedSimpArgs false
set_option linter.unusedSectionVars false
namespace Go.Vs
open Go.IntWalk
theorem newCentre_l1 (r : Int) (l : List Int) : ∀ (w : List Chute), w.length + l.length ≤ 2097152 → I_NewCentre_l1 G.real TE.real r l w = some (w ++ l.map fun k => ⟨k, r, []⟩) ∧ S_NewCentre_l1 G.real TE.real r l w = some (w ++ l.map fun k => ⟨k, r, []⟩) := by
  induction l with
  | nil => intro w _; rw [I_NewCentre_l1, S_NewCentre_l1]; simp
  | cons z l ih =>
    intro w h
    simp only [List.length_cons] at h
    obtain ⟨i1, i2⟩ := ih (w ++ [⟨z, r, []⟩]) (by simp; omega)
    rw [I_NewCentre_l1, S_NewCentre_l1]
    simp only [lP_eq]
    rw [gd_true (by simp; omega), gd_true (by simp; omega), i1, i2]
    simp
theorem newCentre_l2 (l : List Int) : ∀ (w : List Inlet), w.length + l.length ≤ 2097152 → I_NewCentre_l2 G.real TE.real l w = some (w ++ l.map fun k => ⟨k, []⟩) ∧ S_NewCentre_l2 G.real TE.real l w = some (w ++ l.map fun k => ⟨k, []⟩) := by
  induction l with
  | nil => intro w _; rw [I_NewCentre_l2, S_NewCentre_l2]; simp
  | cons z l ih =>
    intro w h
    simp only [List.length_cons] at h
    obtain ⟨i1, i2⟩ := ih (w ++ [⟨z, []⟩]) (by simp; omega)
    rw [I_NewCentre_l2, S_NewCentre_l2]
    simp only [lP_eq]
    rw [gd_true (by simp; omega), gd_true (by simp; omega), i1, i2]
    simp
/-! the reading of a centre, for bigger ones: what is too big is none -/
theorem newCentre_eq (n : Int) (a : List Int) (r : Int) (b p : List Int) (ha : a.length ≤ 1048576) (hb : b.length ≤ 1048576) (hp : p.length ≤ 1048576) :
    ∃ q : Centre × Bool, I_NewCentre G.real TE.real n a r b p = some q ∧ S_NewCentre G.real TE.real n a r b p = some q ∧ q.1.tot ≤ 1048576 := by
  obtain ⟨a1, a2⟩ := newCentre_l1 r a [] (by simp; omega)
  obtain ⟨b1, b2⟩ := newCentre_l2 b [] (by simp; omega)
  unfold I_NewCentre S_NewCentre
  rw [a1, a2, b1, b2, l1Ints_r p (by omega)]
  simp only [cl_some, lP_eq, l1In_r, within_r, br_dec, R_nat, List.nil_append, List.length_nil, Nat.zero_add]
  by_cases h1 : 2 ≤ n ∧ n ≤ 24
  · rw [if_pos h1, if_pos h1, gd_true (by omega), gd_true (by omega), gd_true (by omega)]
    have hch : ∀ l : List Int, sumT (fun y => Chute.tot y) (l.map fun k => ⟨k, r, []⟩) = 0 := by
      intro l
      induction l with
      | nil => rfl
      | cons z l ih => rw [List.map_cons, sumT_cons, ih]; rfl
    have hin : ∀ l : List Int, sumT (fun y => Inlet.tot y) (l.map fun k => ⟨k, []⟩) = 0 := by
      intro l
      induction l with
      | nil => rfl
      | cons z l ih => rw [List.map_cons, sumT_cons, ih]; rfl
    by_cases h2 : a.length + b.length + p.length ≤ 1000000
    · have htot : (Centre.mk (List.replicate n.toNat ⟨0, 0⟩) (a.map fun k => ⟨k, r, []⟩) (b.map fun k => ⟨k, []⟩) p 0).tot ≤ 1048576 := by
        unfold Centre.tot
        simp only [List.length_replicate, List.length_map, hch, hin]
        omega
      rw [iCentre_r _ htot, sCentre_r _ htot]
      simp only [cl_some, br_dec]
      split
      · exact ⟨_, rfl, rfl, htot⟩
      · exact ⟨_, rfl, rfl, by simp [Centre.tot, sumT]⟩
    · have hbig : ∀ c : Centre, c = Centre.mk (List.replicate n.toNat ⟨0, 0⟩) (a.map fun k => ⟨k, r, []⟩) (b.map fun k => ⟨k, []⟩) p 0 → I_IsCentre G.real TE.real c = some false ∧ S_IsCentre G.real TE.real c = some false := by
        intro c hc
        have k1 : c.Belt.length = n.toNat := by rw [hc]; simp
        have k2 : c.Chutes.length = a.length := by rw [hc]; simp
        have k3 : c.Inlets.length = b.length := by rw [hc]; simp
        have k4 : c.Plan.length = p.length := by rw [hc]
        have k5 : ∀ x ∈ c.Chutes, Chute.tot x ≤ 1048576 := by
          intro x hx
          rw [hc] at hx
          simp only [List.mem_map] at hx
          obtain ⟨_, _, rfl⟩ := hx
          simp [Chute.tot]
        have k6 : ∀ x ∈ c.Inlets, Inlet.tot x ≤ 1048576 := by
          intro x hx
          rw [hc] at hx
          simp only [List.mem_map] at hx
          obtain ⟨_, _, rfl⟩ := hx
          simp [Inlet.tot]
        have k7 : c.Now = 0 := by rw [hc]
        have k8 : S_l7All G.real TE.real c = some (itemsOf c) := by
          unfold S_l7All
          have h1 := List.length_filter_le nz c.Belt
          simp only [lP_eq]
          have t1 : sumT (fun y => Chute.tot y) c.Chutes = 0 := by rw [hc]; exact hch a
          have t2 : sumT (fun y => Inlet.tot y) c.Inlets = 0 := by rw [hc]; exact hin b
          rw [sAll_l1 _ _ (by simp; omega), cl_some, sAll_l2 _ _ (by simp; omega), cl_some, sAll_l3 _ _ (by simp only [List.length_append, List.nil_append, flat_tot_ch]; omega), cl_some]
          simp [itemsOf]
        constructor
        · unfold I_IsCentre
          simp only [lP_eq, within_r, llen_Item, llen_Chute, llen_Inlet, llen_I64, br_dec, k1, k2, k3, k4]
          split
          · split
            · split
              · rw [if_neg (by omega)]
              · rfl
            · rfl
          · rfl
        · unfold S_IsCentre
          have e1 := sParts_l1 c (by omega) (by omega) c.Chutes 0 rfl
          have e3 := sParts_l3 c (by omega) (by omega) c.Inlets 0 rfl
          rw [show ((0 : Nat) : Int) = 0 from rfl] at e1 e3
          have e4 : S_l7Parts G.real TE.real c = some false := by
            unfold S_l7Parts
            rw [e1, e3]
            simp only [cl_some, lP_eq, ret_if, sParts_l5 c (by omega), l1In_r, llen_Chute, llen_Inlet, llen_I64, br_dec]
            split
            · split
              · split
                · split
                  · split
                    · congr 1
                      simp only [decide_eq_false_iff_not]
                      omega
                    · rfl
                  · rfl
                · rfl
              · rfl
            · rfl
          simp only [lP_eq, l1In_r, llen_Item, br_dec, e4, cl_some, br_f]
          split <;> rfl
      obtain ⟨g1, g2⟩ := hbig _ rfl
      rw [g1, g2]
      simp only [cl_some, br_f]
      exact ⟨_, rfl, rfl, by simp [Centre.tot, sumT]⟩
  · rw [if_neg h1, if_neg h1]
    exact ⟨_, rfl, rfl, by simp [Centre.tot, sumT]⟩
theorem law9 (n : Int) (a : List Int) (r : Int) (b p : List Int) (ha : a.length ≤ 9223372036854775807) (hb : b.length ≤ 9223372036854775807) (hp : p.length ≤ 9223372036854775807) : L_FnExactNewCentre G.real TE.real n a r b p = some true := by
  unfold L_FnExactNewCentre
  simp only [R_lt, br_dec, llen_I64]
  by_cases h1 : (1048576 : Int) < a.length
  · rw [if_pos h1]
  · rw [if_neg h1]
    by_cases h2 : (1048576 : Int) < b.length
    · rw [if_pos h2]
    · rw [if_neg h2]
      by_cases h3 : (1048576 : Int) < p.length
      · rw [if_pos h3]
      · rw [if_neg h3]
        obtain ⟨⟨r1, r2⟩, e1, e2, e3⟩ := newCentre_eq n a r b p (by omega) (by omega) (by omega)
        simp only at e3
        have c1 := cntI64_le a
        have c2 := cntI64_le b
        have c3 := cntI64_le p
        obtain ⟨l1, p1, p2, p3⟩ := markI64 a 1 (by omega) (by omega) (by omega)
        obtain ⟨l2, q1, q2, q3⟩ := markI64 b (1 + (cntI64 a : Nat)) (by omega) (by omega) (by omega)
        obtain ⟨l3, s1, s2, s3⟩ := markI64 p (1 + (cntI64 a : Nat) + (cntI64 b : Nat)) (by omega) (by omega) (by omega)
        obtain ⟨m, r', m1, m2, m3, m4, m5, m6, m7, m8⟩ := markC r1 e3
        have z1 : ((1 : Int) + (cntI64 a : Nat) + (cntI64 b : Nat) + (cntI64 p : Nat) < 0) = False := by simp; omega
        cases r2 <;> simp only [toIntS_r a (show a.length ≤ 1048576 by omega), toIntS_r b (show b.length ≤ 1048576 by omega), toIntS_r p (show p.length ≤ 1048576 by omega), eqIntS_r a (show a.length ≤ 1048576 by omega), eqIntS_r b (show b.length ≤ 1048576 by omega), eqIntS_r p (show p.length ≤ 1048576 by omega), cl_some, lP_eq, e1, e2, eqC_mk r1 e3, br_t, p1, p2, q1, q2, s1, s2, z1, gd_True, nneg (show (0 : Int) ≤ 1 by omega), if_false, m2, m3, m4, m5, m6, m7, m8, R_eq, decide_true, decide_false, br_f]
end Go.Vs
namespace Go.Proofs.Ytieeagobedjogaa.fnExactNewCentre
open Go.Vs Go.RowKit Go.WideShapes Go.ChangeShapes
set_option linter.unusedVariables false
set_option maxRecDepth 100000
theorem given (as0 : List A) (h : ArgsIs Try.prog 8 Try.f9.params.toList as0) : Go.Vs.Fn Try.prog 9 as0 (.c (.r (.v (.bool true)))) := by
  rw [Try.params9] at h
  obtain ⟨x0, xs0, rfl, ⟨ts0, t0, q0⟩, h⟩ := h
  rw [show tyOf Try.prog 8 3 = some [.int .i64] from by kernel_rfl] at t0
  cases t0
  rw [show aggT Try.prog 3 = false from by kernel_rfl] at q0
  obtain ⟨r0, rfl, q0⟩ := q0
  obtain ⟨_, _, e0, q0, e0_⟩ := is_cons q0
  cases e0
  obtain ⟨a0, rfl⟩ := is_int q0
  obtain ⟨x1, xs1, rfl, ⟨ts1, t1, q1⟩, h⟩ := h
  rw [show tyOf Try.prog 8 25 = some [.sl [.int .i64]] from by kernel_rfl] at t1
  cases t1
  rw [show aggT Try.prog 25 = false from by kernel_rfl] at q1
  obtain ⟨r1, rfl, q1⟩ := q1
  obtain ⟨_, _, e1, q1, e1_⟩ := is_cons q1
  cases e1
  obtain ⟨b1, rfl, l1, q1⟩ := is_sl q1
  obtain ⟨a1, rfl, p1⟩ := rows_is is_I64 b1 q1
  rw [List.length_map] at l1
  obtain ⟨x2, xs2, rfl, ⟨ts2, t2, q2⟩, h⟩ := h
  rw [show tyOf Try.prog 8 3 = some [.int .i64] from by kernel_rfl] at t2
  cases t2
  rw [show aggT Try.prog 3 = false from by kernel_rfl] at q2
  obtain ⟨r2, rfl, q2⟩ := q2
  obtain ⟨_, _, e2, q2, e2_⟩ := is_cons q2
  cases e2
  obtain ⟨a2, rfl⟩ := is_int q2
  obtain ⟨x3, xs3, rfl, ⟨ts3, t3, q3⟩, h⟩ := h
  rw [show tyOf Try.prog 8 25 = some [.sl [.int .i64]] from by kernel_rfl] at t3
  cases t3
  rw [show aggT Try.prog 25 = false from by kernel_rfl] at q3
  obtain ⟨r3, rfl, q3⟩ := q3
  obtain ⟨_, _, e3, q3, e3_⟩ := is_cons q3
  cases e3
  obtain ⟨b3, rfl, l3, q3⟩ := is_sl q3
  obtain ⟨a3, rfl, p3⟩ := rows_is is_I64 b3 q3
  rw [List.length_map] at l3
  obtain ⟨x4, xs4, rfl, ⟨ts4, t4, q4⟩, h⟩ := h
  rw [show tyOf Try.prog 8 25 = some [.sl [.int .i64]] from by kernel_rfl] at t4
  cases t4
  rw [show aggT Try.prog 25 = false from by kernel_rfl] at q4
  obtain ⟨r4, rfl, q4⟩ := q4
  obtain ⟨_, _, e4, q4, e4_⟩ := is_cons q4
  cases e4
  obtain ⟨b4, rfl, l4, q4⟩ := is_sl q4
  obtain ⟨a4, rfl, p4⟩ := rows_is is_I64 b4 q4
  rw [List.length_map] at l4
  have h := h
  subst h
  exact c_L_FnExactNewCentre rfl rfl (law9 _ _ _ _ _ l1 l3 l4)
theorem lifted (os : Os) (started : os.Started) (H : Type) (enc : TypeId × Value → H) :
    ReturnsInHanded {} Try.checked os 9 .any (Rows.fnExactNewCentreSpec.pre6 enc Try.prog Try.f9 Rows.fnExactNewCentreRow.domain false) (Rows.fnExactNewCentreSpec.post enc Try.prog Try.f9 false true false false) := by
  refine returnsInHanded_of_change (C := Try.checked) (s := Rows.fnExactNewCentreSpec) (by kernel_rfl) started (by kernel_rfl) Try.func9
    (ChangeSpec.witness6 (enc := enc) (C := Try.checked) false ⟨#[], #[.int .i64 0, .slice none 0 0, .int .i64 0, .slice none 0 0, .slice none 0 0], []⟩ 8 (by kernel_rfl) (by kernel_rfl) (by kernel_rfl) (by kernel_rfl)) ?_
  intro W base args ds gs before hval hW _ _
  refine law_contract (n := 8) (tb := 4) rfl rfl Try.underlying4 (by kernel_rfl) (by kernel_rfl) (fun ds hl => ?_) given W base args ds gs before hval hW
  rw [Try.params9] at hl
  match ds, hl with
  | [d0, d1, d2, d3, d4], _ => exact ⟨rfl, rfl, rfl⟩
theorem facts : joinedFacts Try.prog 9 Try.f9 Rows.fnExactNewCentreSpec Rows.fnExactNewCentreRow = true := by
  unfold joinedFacts
  exact (and_i (and_i (and_i (and_i (and_i (and_i (and_i (and_i (and_i (and_i (and_i (and_i (and_i (and_i (and_i (and_i (and_i (and_i (and_i (and_i (and_i (and_i (and_i (and_i (and_i (and_i (and_i (and_i (and_i (and_i (and_i (by kernel_rfl) io_laid) io_maps) (by kernel_rfl)) (by kernel_rfl)) (by kernel_rfl)) (by kernel_rfl)) (by kernel_rfl)) (by kernel_rfl)) (by kernel_rfl)) (by kernel_rfl)) (by kernel_rfl)) (by kernel_rfl)) (by kernel_rfl)) (by kernel_rfl)) (by kernel_rfl)) (by kernel_rfl)) (by kernel_rfl)) (by kernel_rfl)) (by kernel_rfl)) (by kernel_rfl)) (by kernel_rfl)) (by kernel_rfl)) (by kernel_rfl)) io_heard) io_enter) (by rw [io_final]; rfl)) (by rw [io_make]; rfl)) (by kernel_rfl)) (by kernel_rfl)) (by kernel_rfl)) (by kernel_rfl))
theorem holds : Rows.FnExactNewCentreSaid :=
  OpenClaim.holds_of_wide 9 Try.f9 rfl rfl rfl rfl rfl rfl rfl ⟨rfl, rfl, rfl, rfl, rfl⟩ rfl rfl rfl rfl rfl (by kernel_rfl) Try.func9 facts
    (of_decide_eq_true (by kernel_rfl)) (by unfold Func.isWrapper; first | (rw [if_pos (by decide +kernel)]; kernel_rfl) | (rw [if_neg (by decide +kernel)]; exact ⟨rfl, rfl⟩))
    (fun os started H enc _ => lifted os started H enc)
end Go.Proofs.Ytieeagobedjogaa.fnExactNewCentre
