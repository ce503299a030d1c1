/- The law FnBeltHalves holds: whatever its arguments, the call returns true and leaves them as they were. No condition. -/
import Derived.Test.YtieeagobedjogaaDraws
import Derived.Test.YtieeagobedjogaaLaf
import Derived.Test.YtieeagobedjogaaIs
import Derived.Test.YtieeagobedjogaaOrder
import Derived.Test.YtieeagobedjogaaRows
set_option linter.unusedVariables false
set_option linter.unusedSimpArgs false
set_option linter.unusedSectionVars false
namespace Go.Vs
open Go.IntWalk
theorem law7 (a : List Int) (h : a.length ≤ 9223372036854775807 ∧ ∀ x ∈ a, 0 ≤ x ∧ x ≤ 255) : L_FnBeltHalves G.real TE.real a = some true := by
  refine Tr.eq ?_
  unfold L_FnBeltHalves
  refine Tr.big fun hl => ?_
  refine Ok.cl (drawRun_ok a (by omega)) fun x hx => Ok.cl (at_ok a h.2 1 (by omega)) fun m0 hm => ?_
  obtain ⟨c, k⟩ := x
  obtain ⟨ht, k1, k2⟩ := hx
  simp only at ht k1 k2 ⊢
  have hm1 : 0 ≤ m0.tmod 9 := Int.tmod_nonneg _ hm.1
  have hm2 : m0.tmod 9 < 9 := Int.tmod_lt_of_pos _ (by omega)
  simp only [R_rem, R_add]
  generalize m0.tmod 9 = m at hm1 hm2
  rw [w64 (n := k + m) (by omega) (by omega), w64 (n := m + k) (by omega) (by omega)]
  refine Ok.br (fun _ => Ok.ret rfl) fun hk => Ok.br (fun _ => Ok.ret rfl) fun hkm => Ok.br (fun _ => Ok.ret rfl) fun hn0 => Ok.br (fun _ => Ok.ret rfl) fun hn1 => ?_
  have hk : 0 ≤ k := by simpa using hk
  have hkm : k + m ≤ 1000 := by simpa using hkm
  have hn0 : 0 ≤ c.Now := by simpa using hn0
  have hn1 : c.Now ≤ 90000 := by simpa using hn1
  obtain ⟨t, t1, t2, t3⟩ := tickCentre_eq c ht
  obtain ⟨r, r1, _, r3, r4, r5⟩ := runCentre_eq c ht m
  obtain ⟨s, s1, _, s3, s4, s5⟩ := runCentre_eq r r3 k
  obtain ⟨u, u1, _, u3, u4, u5⟩ := runCentre_eq c ht (m + k)
  obtain ⟨v, v1, _⟩ := runCentre_eq c ht 1
  have htv : t = v := by
    have e := t1
    unfold I_TickCentre at e
    rw [v1, cl_some] at e
    exact (Option.some.inj e).symm
  have hsu : s = u := by
    by_cases hc : IsC c
    · have er := r4 hc ⟨hm1, by omega⟩ (by omega)
      have hD := runD m.toNat hc.d
      have hN := run_now m.toNat c
      have hR : IsC r := by rw [er]; exact hD.c (by omega)
      have hRN : r.Now = c.Now + m := by rw [er, hN]; omega
      rw [s4 hR ⟨hk, by omega⟩ (by omega), u4 hc ⟨by omega, by omega⟩ (by omega), er, run_add]
      congr 1
      omega
    · have er := r5 (fun q => hc q.1)
      subst er
      rw [s5 (fun q => hc q.1), u5 (fun q => hc q.1)]
  subst hsu
  subst htv
  rw [t1, t2, cl_some, cl_some, centres_r t t3, cl_some, br_t, r1, cl_some, s1, cl_some, u1, cl_some, centres_r s s3, cl_some, br_t, cl_some, v1, cl_some, centres_r t t3, cl_some]
  exact Ok.ret rfl
end Go.Vs
namespace Go.Proofs.Ytieeagobedjogaa.fnBeltHalves
open Go.Vs Go.RowKit Go.WideShapes Go.ChangeShapes
set_option linter.unusedVariables false
set_option maxRecDepth 100000
theorem given (as0 : List A) (h : ArgsIs Try.prog 8 Try.f7.params.toList as0) : Go.Vs.Fn Try.prog 7 as0 (.c (.r (.v (.bool true)))) := by
  rw [Try.params7] at h
  obtain ⟨x0, xs0, rfl, ⟨ts0, t0, q0⟩, h⟩ := h
  rw [show tyOf Try.prog 8 39 = some [.sl [.int .u8]] from by kernel_rfl] at t0
  cases t0
  rw [show aggT Try.prog 39 = false from by kernel_rfl] at q0
  obtain ⟨r0, rfl, q0⟩ := q0
  obtain ⟨_, _, e0, q0, e0_⟩ := is_cons q0
  cases e0
  obtain ⟨b0, rfl, l0, q0⟩ := is_sl q0
  obtain ⟨a0, rfl, p0⟩ := rows_is is_U8 b0 q0
  rw [List.length_map] at l0
  have h := h
  subst h
  exact c_L_FnBeltHalves rfl rfl (law7 _ ⟨l0, p0⟩)
theorem lifted (os : Os) (started : os.Started) (H : Type) (enc : TypeId × Value → H) :
    ReturnsInHanded {} Try.checked os 7 .any (Rows.fnBeltHalvesSpec.pre6 enc Try.prog Try.f7 Rows.fnBeltHalvesRow.domain false) (Rows.fnBeltHalvesSpec.post enc Try.prog Try.f7 false true false false) := by
  refine returnsInHanded_of_change (C := Try.checked) (s := Rows.fnBeltHalvesSpec) (by kernel_rfl) started (by kernel_rfl) Try.func7
    (ChangeSpec.witness6 (enc := enc) (C := Try.checked) false ⟨#[], #[.slice none 0 0], []⟩ 8 (by kernel_rfl) (by kernel_rfl) (by kernel_rfl) (by kernel_rfl)) ?_
  intro W base args ds gs before hval hW _ _
  refine law_contract (n := 8) (tb := 4) rfl rfl Try.underlying4 (by kernel_rfl) (by kernel_rfl) (fun ds hl => ?_) given W base args ds gs before hval hW
  rw [Try.params7] at hl
  match ds, hl with
  | [d0], _ => exact ⟨rfl, rfl, rfl⟩
theorem facts : joinedFacts Try.prog 7 Try.f7 Rows.fnBeltHalvesSpec Rows.fnBeltHalvesRow = true := by
  unfold joinedFacts
  exact (and_i (and_i (and_i (and_i (and_i (and_i (and_i (and_i (and_i (and_i (and_i (and_i (and_i (and_i (and_i (and_i (and_i (and_i (and_i (and_i (and_i (and_i (and_i (and_i (and_i (and_i (and_i (and_i (and_i (and_i (and_i (by kernel_rfl) io_laid) io_maps) (by kernel_rfl)) (by kernel_rfl)) (by kernel_rfl)) (by kernel_rfl)) (by kernel_rfl)) (by kernel_rfl)) (by kernel_rfl)) (by kernel_rfl)) (by kernel_rfl)) (by kernel_rfl)) (by kernel_rfl)) (by kernel_rfl)) (by kernel_rfl)) (by kernel_rfl)) (by kernel_rfl)) (by kernel_rfl)) (by kernel_rfl)) (by kernel_rfl)) (by kernel_rfl)) (by kernel_rfl)) (by kernel_rfl)) io_heard) io_enter) (by rw [io_final]; rfl)) (by rw [io_make]; rfl)) (by kernel_rfl)) (by kernel_rfl)) (by kernel_rfl)) (by kernel_rfl))
theorem holds : Rows.FnBeltHalvesSaid :=
  OpenClaim.holds_of_wide 7 Try.f7 rfl rfl rfl rfl rfl rfl rfl ⟨rfl, rfl, rfl, rfl, rfl⟩ rfl rfl rfl rfl rfl (by kernel_rfl) Try.func7 facts
    (of_decide_eq_true (by kernel_rfl)) (by unfold Func.isWrapper; first | (rw [if_pos (by decide +kernel)]; kernel_rfl) | (rw [if_neg (by decide +kernel)]; exact ⟨rfl, rfl⟩))
    (fun os started H enc _ => lifted os started H enc)
end Go.Proofs.Ytieeagobedjogaa.fnBeltHalves
