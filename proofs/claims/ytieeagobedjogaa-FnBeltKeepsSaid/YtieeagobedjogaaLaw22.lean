/- The law FnBeltKeeps holds: whatever its arguments, the call returns true and leaves them as they were. No condition. -/
import Derived.Test.YtieeagobedjogaaDraws
import Derived.Test.YtieeagobedjogaaLac
import Derived.Test.YtieeagobedjogaaPlain
import Derived.Test.YtieeagobedjogaaLaa
import Derived.Test.YtieeagobedjogaaItems
import Derived.Test.YtieeagobedjogaaIs
import Derived.Test.YtieeagobedjogaaOrder
import Derived.Test.YtieeagobedjogaaRows
set_option linter.unusedVariables false
set_option linter.unusedSimpArgs false
set_option linter.unusedSectionVars false
namespace Go.Vs
open Go.IntWalk
theorem drawRun_ok (a : List Int) (h : a.length ≤ 1000000) : Ok (fun r => r.1.tot ≤ 1048576 ∧ -1 ≤ r.2 ∧ r.2 ≤ 1001) (S_DrawRunCentre G.real TE.real a) := by
  unfold S_DrawRunCentre
  refine Ok.lP (Ok.cl (any_ok _ (new_cur a h)) fun x hx => Ok.lP (Ok.cl (l1Int_ok _ hx.2 _ (by simp)) fun y hy => Ok.ret ⟨hx.1, ?_⟩))
  have := hy.1
  simp only [List.mem_cons, List.not_mem_nil, or_false] at this
  simp only
  omega
end Go.Vs
namespace Go.Vs
open Go.IntWalk
theorem ints_l1 (a : List Int) (ha : a.length ≤ 1048576) : ∀ (l : List Int) (k : Nat), a.drop k = l → L_ints_l1 G.real TE.real a l k = some (.out ())
  | [], k, _ => by rw [L_ints_l1]
  | z :: l, k, h => by
    obtain ⟨h1, h2, h3, _⟩ := drop_cons h
    rw [L_ints_l1]
    simp only [R_nat, Int.toNat_natCast]
    rw [gt_some h2]
    simp only [R_eq, decide_true, br_t, R_add]
    rw [w64 (by omega) (by omega)]
    exact ints_l1 a ha l (k + 1) h3
theorem ints_r (a : List Int) (ha : a.length ≤ 1048576) : L_ints G.real TE.real a a = some true := by
  unfold L_ints
  simp only [R_eq, decide_true, br_t]
  rw [show (0 : Int) = ((0 : Nat) : Int) from rfl, ints_l1 a ha a 0 rfl]
  rfl
end Go.Vs
namespace Go.Vs
open Go.IntWalk
/-! What waits, what is on the belt. -/
theorem iCountWait_l1 (l : List Inlet) : ∀ (v : Int), 0 ≤ v → v + (sumT (fun y => Inlet.tot y) l : Nat) < 4611686018427387904 → I_CountWait_l1 G.real TE.real l v = v + (sumT (fun y => Inlet.tot y) l : Nat) := by
  induction l with
  | nil => intro v _ _; rw [I_CountWait_l1]; simp [sumT]
  | cons z l ih =>
    intro v h0 h
    have e : Inlet.tot z = z.Wait.length := rfl
    rw [sumT_cons] at h ⊢
    rw [I_CountWait_l1]
    simp only [R_add, llen_Item]
    rw [w64 (by omega) (by omega), ih _ (by omega) (by omega)]
    omega
theorem iCountWait_r (c : Centre) (h : c.tot ≤ 1048576) : I_CountWait G.real TE.real c = (sumT (fun y => Inlet.tot y) c.Inlets : Nat) := by
  unfold Centre.tot at h
  unfold I_CountWait
  simp only [lP_eq]
  rw [iCountWait_l1 _ _ (by omega) (by omega)]
  omega
theorem iCountBelt_l1 (l : List Item) : ∀ (v : Int), 0 ≤ v → v + l.length < 4611686018427387904 → I_CountBelt_l1 G.real TE.real l v = v + (l.countP onB : Nat) := by
  induction l with
  | nil => intro v _ _; rw [I_CountBelt_l1]; simp
  | cons z l ih =>
    intro v h0 h
    simp only [List.length_cons] at h
    rw [I_CountBelt_l1]
    simp only [R_add, R_eq, br_dec]
    rw [w64 (by omega) (by omega), ih _ (by omega) (by omega), ih _ (by omega) (by omega), List.countP_cons]
    unfold onB
    by_cases hz : z.Id = 0
    · simp [hz]
    · simp [hz]; omega
theorem iCountBelt_r (c : Centre) (h : c.tot ≤ 1048576) : I_CountBelt G.real TE.real c = (c.Belt.countP onB : Nat) := by
  unfold Centre.tot at h
  unfold I_CountBelt
  simp only [lP_eq]
  rw [iCountBelt_l1 _ _ (by omega) (by omega)]
  omega
end Go.Vs
namespace Go.Vs
open Go.IntWalk
theorem where_hit (a : Int) (l : List Item) : ∀ v, (∃ x ∈ l, x.Id = a) → ∃ j, I_WhereIs_l1 G.real TE.real a l v = .ret (1, j) := by
  induction l with
  | nil => rintro v ⟨x, hx, _⟩; cases hx
  | cons z l ih =>
    rintro v ⟨x, hx, e⟩
    rw [I_WhereIs_l1]
    simp only [R_eq, br_dec]
    split
    · exact ⟨v, rfl⟩
    · rename_i hz
      rcases List.mem_cons.1 hx with rfl | hx
      · exact absurd e hz
      · exact ih _ ⟨x, hx, e⟩
theorem where_miss (a : Int) (l : List Item) : ∀ v, (∀ x ∈ l, x.Id ≠ a) → I_WhereIs_l1 G.real TE.real a l v = .out () := by
  induction l with
  | nil => intro v _; rw [I_WhereIs_l1]
  | cons z l ih =>
    intro v h
    rw [I_WhereIs_l1]
    simp only [R_eq, br_dec]
    rw [if_neg (h z (by simp))]
    exact ih _ fun x hx => h x (by simp [hx])
theorem has_r (l : List Item) (a : Int) : I_hasItem G.real TE.real l a = decide (∃ x ∈ l, x.Id = a) := by
  have key : ∀ l : List Item, I_hasItem_l1 G.real TE.real a l = if ∃ x ∈ l, x.Id = a then .ret true else .out () := by
    intro l
    induction l with
    | nil => rw [I_hasItem_l1]; simp
    | cons z l ih =>
      rw [I_hasItem_l1, ih]
      simp only [R_eq, br_dec]
      by_cases h : z.Id = a
      · rw [if_pos h, if_pos ⟨z, by simp, h⟩]
      · rw [if_neg h]
        refine if_iff ?_
        simp [h]
  unfold I_hasItem
  rw [key]
  simp only [lP_eq]
  split
  · rename_i h; simp [lrp, h]
  · rename_i h; simp only [lrp_out]; exact (decide_eq_false h).symm
theorem where_ch (a : Int) (l : List Chute) : ∀ v, (∃ y ∈ l, ∃ x ∈ y.Held, x.Id = a) → ∃ j, I_WhereIs_l2 G.real TE.real a l v = .ret (2, j) := by
  induction l with
  | nil => rintro v ⟨y, hy, _⟩; cases hy
  | cons z l ih =>
    rintro v ⟨y, hy, e⟩
    rw [I_WhereIs_l2]
    simp only [lP_eq, has_r, br_dec]
    split
    · exact ⟨v, rfl⟩
    · rename_i hz
      rcases List.mem_cons.1 hy with rfl | hy
      · exact absurd e hz
      · exact ih _ ⟨y, hy, e⟩
theorem where_ch_miss (a : Int) (l : List Chute) : ∀ v, (¬ ∃ y ∈ l, ∃ x ∈ y.Held, x.Id = a) → I_WhereIs_l2 G.real TE.real a l v = .out () := by
  induction l with
  | nil => intro v _; rw [I_WhereIs_l2]
  | cons z l ih =>
    intro v h
    rw [I_WhereIs_l2]
    simp only [lP_eq, has_r, br_dec]
    rw [if_neg fun e => h ⟨z, by simp, e⟩]
    exact ih _ fun ⟨y, hy, e⟩ => h ⟨y, by simp [hy], e⟩
theorem where_in (a : Int) (l : List Inlet) : ∀ v, (∃ y ∈ l, ∃ x ∈ y.Wait, x.Id = a) → ∃ j, I_WhereIs_l3 G.real TE.real a l v = .ret (3, j) := by
  induction l with
  | nil => rintro v ⟨y, hy, _⟩; cases hy
  | cons z l ih =>
    rintro v ⟨y, hy, e⟩
    rw [I_WhereIs_l3]
    simp only [lP_eq, has_r, br_dec]
    split
    · exact ⟨v, rfl⟩
    · rename_i hz
      rcases List.mem_cons.1 hy with rfl | hy
      · exact absurd e hz
      · exact ih _ ⟨y, hy, e⟩
theorem where_found (c : Centre) (h : c.tot ≤ 1048576) (hc : IsC c) (x : Item) (hx : x ∈ itemsOf c) : ∃ z, I_WhereIs G.real TE.real c x.Id = some z ∧ z.1 ≠ 0 := by
  have hid := (hc.item hx).1
  unfold I_WhereIs
  rw [iCentre_r c h]
  simp only [cl_some, br_dec, R_eq, lP_eq]
  rw [if_pos hc, if_neg (by omega)]
  by_cases h1 : ∃ y ∈ c.Belt, y.Id = x.Id
  · obtain ⟨j, hj⟩ := where_hit x.Id c.Belt 0 h1
    rw [hj]
    exact ⟨_, rfl, by simp⟩
  · rw [where_miss x.Id c.Belt 0 fun y hy e => h1 ⟨y, hy, e⟩]
    simp only [lr_out]
    unfold itemsOf at hx
    rcases List.mem_append.1 hx with hx | hx
    · exact absurd ⟨x, (List.mem_filter.1 hx).1, rfl⟩ h1
    · by_cases h2 : ∃ y ∈ c.Chutes, ∃ z ∈ y.Held, z.Id = x.Id
      · obtain ⟨j, hj⟩ := where_ch x.Id c.Chutes 0 h2
        rw [hj]
        exact ⟨_, rfl, by simp⟩
      · rw [where_ch_miss x.Id c.Chutes 0 h2]
        simp only [lr_out]
        rcases List.mem_append.1 hx with hx | hx
        · obtain ⟨y, hy, hz⟩ := List.mem_flatMap.1 hx
          exact absurd ⟨y, hy, x, hz, rfl⟩ h2
        · obtain ⟨y, hy, hz⟩ := List.mem_flatMap.1 hx
          obtain ⟨j, hj⟩ := where_in x.Id c.Inlets 0 ⟨y, hy, x, hz, rfl⟩
          rw [hj]
          exact ⟨_, rfl, by simp⟩
end Go.Vs
namespace Go.Vs
open Go.IntWalk
theorem keeps_l1 (l : List Chute) : ∀ v : Int, 0 ≤ v → v + (sumT (fun y => Chute.tot y) l : Nat) < 4611686018427387904 → L_FnBeltKeeps_l1 G.real TE.real l v = v + (sumT (fun y => Chute.tot y) l : Nat) := by
  induction l with
  | nil => intro v _ _; rw [L_FnBeltKeeps_l1]; simp [sumT]
  | cons z l ih =>
    intro v h0 h
    rw [sumT_cons] at h ⊢
    have e : Chute.tot z = z.Held.length := rfl
    rw [L_FnBeltKeeps_l1]
    simp only [R_add, llen_Item]
    rw [w64 (by omega) (by omega), ih _ (by omega) (by omega)]
    omega
theorem keeps_l2 (r : Centre) (a : List Int) (ha : a.length ≤ 1048576) (hs : a.Pairwise fun x y => x < y) (hw : ∀ z ∈ a, ∃ q, I_WhereIs G.real TE.real r z = some q ∧ q.1 ≠ 0) : ∀ (l : List Int) (k : Nat), a.drop k = l → L_FnBeltKeeps_l2 G.real TE.real r a l (k : Int) = some (.out ())
  | [], k, _ => by rw [L_FnBeltKeeps_l2]
  | z :: l, k, h => by
    obtain ⟨h1, h2, h3, _⟩ := drop_cons h
    obtain ⟨q, q1, q2⟩ := hw z (List.mem_of_getElem? h2)
    rw [L_FnBeltKeeps_l2, q1, cl_some]
    simp only [R_eq, R_lt, R_sub, R_add, R_le, R_nat, br_dec]
    rw [if_neg q2, w64 (n := (k : Int) + 1) (by omega) (by omega), show (k : Int) + 1 = ((k + 1 : Nat) : Int) from by omega, keeps_l2 r a ha hs hw l (k + 1) h3]
    split
    · rename_i hk
      have hp : a[k - 1]? = some a[k - 1] := List.getElem?_eq_getElem (by omega)
      rw [w64 (n := (k : Int) - 1) (by omega) (by omega), gd_true (by omega), show ((k : Int) - 1).toNat = k - 1 from by omega, gt_some hp]
      have hz : z = a[k] := by
        have := List.getElem?_eq_getElem h1
        rw [h2] at this
        exact Option.some.inj this
      have := List.pairwise_iff_getElem.1 hs (k - 1) k (by omega) h1 (by omega)
      rw [if_neg (by rw [hz]; omega)]
    · rfl
theorem filter_onB {p : Nat} {b : List Item} (h : BeltOk p b) : b.countP onB = (b.filter nz).length := by
  rw [← List.countP_eq_length_filter]
  refine List.countP_congr fun x hx => ?_
  simp only [onB, decide_eq_true_eq, nz_iff]
  constructor
  · intro h1 h2; exact h1 h2.1
  · intro h1 h2; exact h1 ⟨h2, beltOk_zero h hx h2⟩
theorem law22 (a : List Int) (h : a.length ≤ 9223372036854775807 ∧ ∀ x ∈ a, 0 ≤ x ∧ x ≤ 255) : L_FnBeltKeeps G.real TE.real a = some true := by
  refine Tr.eq ?_
  unfold L_FnBeltKeeps
  refine Tr.big fun hl => ?_
  refine Ok.cl (drawRun_ok a (by omega)) fun x hx => ?_
  obtain ⟨c, k⟩ := x
  obtain ⟨ht, k1, k2⟩ := hx
  simp only at ht k1 k2 ⊢
  rw [show Centre.mk c.Belt c.Chutes c.Inlets c.Plan c.Now = c from rfl, sCentre_r c ht]
  obtain ⟨r, r1, _, r3, r4, r5⟩ := runCentre_eq c ht k
  rw [r1, cl_some, iItems_r c ht, cl_some, iItems_r r r3, cl_some, iCentre_r r r3]
  by_cases hc : IsC c
  · have key : ∃ n, r = runP n c ∧ r.Now ≤ 100000 := by
      by_cases hk : (0 ≤ k ∧ k ≤ 1000) ∧ c.Now + k ≤ 100000
      · refine ⟨_, r4 hc hk.1 hk.2, ?_⟩
        rw [r4 hc hk.1 hk.2, run_now]; omega
      · refine ⟨0, r5 fun q => hk q.2, ?_⟩
        rw [r5 fun q => hk q.2]; exact hc.now.2
    obtain ⟨n, e, hN⟩ := key
    have hD : IsD r := by rw [e]; exact runD n hc.d
    have hNow : r.Now = c.Now + n := by rw [e, run_now]
    have h0 := hc.now
    have hR : IsC r := hD.c (by omega)
    have hp : (itemsOf r).Perm (itemsOf c) := by rw [e]; exact run_perm n hc.d
    have hpi : ((itemsOf r).map (·.Id)).Perm ((itemsOf c).map (·.Id)) := hp.map _
    have hsr : srt ((itemsOf r).map (·.Id)) = srt ((itemsOf c).map (·.Id)) := srt_unique ((srt_perm _).trans hpi) (srt_sorted _)
    have hil := items_len c
    rw [if_pos hc, if_pos hR, hsr]
    generalize ha : srt ((itemsOf c).map (·.Id)) = ids
    have hlen : ids.length = (itemsOf r).length := by rw [← ha, srt_len, List.length_map, hp.length_eq]
    have hlc := hp.length_eq
    rw [ints_r ids (by omega), cl_some, br_t]
    simp only [hc, hR, decide_true, cl_some, br_t, lP_eq]
    have htot := r3
    unfold Centre.tot at htot
    rw [iCountBelt_r r r3, iCountWait_r r r3, keeps_l1 _ 0 (by omega) (by omega)]
    have hbo := filter_onB hD.beltOk
    have hsum : (itemsOf r).length = (r.Belt.filter nz).length + (sumT (fun y => Chute.tot y) r.Chutes + sumT (fun y => Inlet.tot y) r.Inlets) := by
      unfold itemsOf
      rw [List.length_append, List.length_append, flat_tot_ch, flat_tot_in]
    have hle : (r.Belt.filter nz).length ≤ r.Belt.length := List.length_filter_le _ _
    simp only [R_add, R_eq, br_dec, llen_I64]
    rw [w64 (n := ((r.Belt.countP onB : Nat) : Int) + ((sumT (fun y => Inlet.tot y) r.Inlets : Nat) : Int)) (by omega) (by omega), w64 (by omega) (by omega), if_pos (by omega)]
    have hstrict : ids.Pairwise fun x y => x < y := by
      have h1 : ids.Pairwise fun x y => x ≤ y := by rw [← ha]; exact srt_sorted _
      have h2 : ids.Nodup := by rw [← ha]; exact (srt_perm _).nodup_iff.2 hc.itn
      exact (h1.and h2).imp fun hh => by omega
    have hwh : ∀ z ∈ ids, ∃ q, I_WhereIs G.real TE.real r z = some q ∧ q.1 ≠ 0 := by
      intro z hz
      have hz2 : z ∈ (itemsOf r).map (·.Id) := by
        rw [← ha, ← hsr] at hz
        exact (srt_perm _).mem_iff.1 hz
      obtain ⟨x, hx, rfl⟩ := List.mem_map.1 hz2
      exact where_found r r3 hR x hx
    rw [show (0 : Int) = ((0 : Nat) : Int) from rfl, keeps_l2 r ids (by omega) hstrict hwh ids 0 rfl]
    exact Ok.ret rfl
  · have e := r5 fun q => hc q.1
    subst e
    rw [if_neg hc]
    rw [ints_r [] (by simp), cl_some, br_t]
    simp only [hc, decide_false, cl_some, br_f, lP_eq]
    rw [L_FnBeltKeeps_l6]
    exact Ok.ret rfl
end Go.Vs
namespace Go.Proofs.Ytieeagobedjogaa.fnBeltKeeps
open Go.Vs Go.RowKit Go.WideShapes Go.ChangeShapes
set_option linter.unusedVariables false
set_option maxRecDepth 100000
theorem given (as0 : List A) (h : ArgsIs Try.prog 8 Try.f22.params.toList as0) : Go.Vs.Fn Try.prog 22 as0 (.c (.r (.v (.bool true)))) := by
  rw [Try.params22] at h
  obtain ⟨x0, xs0, rfl, ⟨ts0, t0, q0⟩, h⟩ := h
  rw [show tyOf Try.prog 8 39 = some [.sl [.int .u8]] from by kernel_rfl] at t0
  cases t0
  rw [show aggT Try.prog 39 = false from by kernel_rfl] at q0
  obtain ⟨r0, rfl, q0⟩ := q0
  obtain ⟨_, _, e0, q0, e0_⟩ := is_cons q0
  cases e0
  obtain ⟨b0, rfl, l0, q0⟩ := is_sl q0
  obtain ⟨a0, rfl, p0⟩ := rows_is is_U8 b0 q0
  rw [List.length_map] at l0
  have h := h
  subst h
  exact c_L_FnBeltKeeps rfl rfl (law22 _ ⟨l0, p0⟩)
theorem lifted (os : Os) (started : os.Started) (H : Type) (enc : TypeId × Value → H) :
    ReturnsInHanded {} Try.checked os 22 .any (Rows.fnBeltKeepsSpec.pre6 enc Try.prog Try.f22 Rows.fnBeltKeepsRow.domain false) (Rows.fnBeltKeepsSpec.post enc Try.prog Try.f22 false true false false) := by
  refine returnsInHanded_of_change (C := Try.checked) (s := Rows.fnBeltKeepsSpec) (by kernel_rfl) started (by kernel_rfl) Try.func22
    (ChangeSpec.witness6 (enc := enc) (C := Try.checked) false ⟨#[], #[.slice none 0 0], []⟩ 8 (by kernel_rfl) (by kernel_rfl) (by kernel_rfl) (by kernel_rfl)) ?_
  intro W base args ds gs before hval hW _ _
  refine law_contract (n := 8) (tb := 4) rfl rfl Try.underlying4 (by kernel_rfl) (by kernel_rfl) (fun ds hl => ?_) given W base args ds gs before hval hW
  rw [Try.params22] at hl
  match ds, hl with
  | [d0], _ => exact ⟨rfl, rfl, rfl⟩
theorem facts : joinedFacts Try.prog 22 Try.f22 Rows.fnBeltKeepsSpec Rows.fnBeltKeepsRow = true := by
  unfold joinedFacts
  exact (and_i (and_i (and_i (and_i (and_i (and_i (and_i (and_i (and_i (and_i (and_i (and_i (and_i (and_i (and_i (and_i (and_i (and_i (and_i (and_i (and_i (and_i (and_i (and_i (and_i (and_i (and_i (and_i (and_i (and_i (and_i (by kernel_rfl) io_laid) io_maps) (by kernel_rfl)) (by kernel_rfl)) (by kernel_rfl)) (by kernel_rfl)) (by kernel_rfl)) (by kernel_rfl)) (by kernel_rfl)) (by kernel_rfl)) (by kernel_rfl)) (by kernel_rfl)) (by kernel_rfl)) (by kernel_rfl)) (by kernel_rfl)) (by kernel_rfl)) (by kernel_rfl)) (by kernel_rfl)) (by kernel_rfl)) (by kernel_rfl)) (by kernel_rfl)) (by kernel_rfl)) (by kernel_rfl)) io_heard) io_enter) (by rw [io_final]; rfl)) (by rw [io_make]; rfl)) (by kernel_rfl)) (by kernel_rfl)) (by kernel_rfl)) (by kernel_rfl))
theorem holds : Rows.FnBeltKeepsSaid :=
  OpenClaim.holds_of_wide 22 Try.f22 rfl rfl rfl rfl rfl rfl rfl ⟨rfl, rfl, rfl, rfl, rfl⟩ rfl rfl rfl rfl rfl (by kernel_rfl) Try.func22 facts
    (of_decide_eq_true (by kernel_rfl)) (by unfold Func.isWrapper; first | (rw [if_pos (by decide +kernel)]; kernel_rfl) | (rw [if_neg (by decide +kernel)]; exact ⟨rfl, rfl⟩))
    (fun os started H enc _ => lifted os started H enc)
end Go.Proofs.Ytieeagobedjogaa.fnBeltKeeps
