/- The law FnCells holds: whatever its arguments, the call returns true and leaves them as they were. No condition. -/
import Derived.Test.YtieeagobedjogaaDraws
import Derived.Test.YtieeagobedjogaaLae
import Derived.Test.YtieeagobedjogaaIs
import Derived.Test.YtieeagobedjogaaOrder
import Derived.Test.YtieeagobedjogaaRows
set_option linter.unusedVariables false
set_option linter.unusedSimpArgs false
set_option linter.unusedSectionVars false
namespace Go.Vs
open Go.IntWalk
theorem cellsTo_ok (c : Centre) (h : c.tot ≤ 1048576) (a b : Int) : Ok (fun d : Int => d = -1 ∨ (IsC c ∧ 0 ≤ a ∧ a < c.Belt.length ∧ 0 ≤ b ∧ ∃ x, c.Chutes[b.toNat]? = some x ∧ 0 ≤ x.Cell ∧ x.Cell < c.Belt.length ∧ 1 ≤ d ∧ d ≤ c.Belt.length ∧ (x.Cell = a + d ∨ x.Cell = a + d - c.Belt.length))) (I_CellsTo G.real TE.real c a b) := by
  unfold I_CellsTo
  rw [iCentre_r c h]
  unfold Centre.tot at h
  simp only [cl_some, lP_eq, br_dec, llen_Item, llen_Chute, R_lt, R_le, R_sub, R_nat, R_eq, R_rem, R_add]
  by_cases hc : IsC c
  · simp only [hc, if_true]
    have hb := hc.belt
    by_cases h1 : a < 0
    · rw [if_pos h1]; exact Ok.ret (Or.inl rfl)
    · rw [if_neg h1]
      by_cases h2 : (c.Belt.length : Int) ≤ a
      · rw [if_pos h2]; exact Ok.ret (Or.inl rfl)
      · rw [if_neg h2]
        by_cases h3 : b < 0
        · rw [if_pos h3]; exact Ok.ret (Or.inl rfl)
        · rw [if_neg h3]
          by_cases h4 : (c.Chutes.length : Int) ≤ b
          · rw [if_pos h4]; exact Ok.ret (Or.inl rfl)
          · rw [if_neg h4, gd_true (by omega)]
            obtain ⟨x, hx, hm⟩ := getL (l := c.Chutes) (i := b) (by omega) (by omega)
            obtain ⟨q1, q2, _⟩ := hc.cell hm
            rw [gt_some hx, gd_true (by omega), w64 (n := x.Cell - a) (by omega) (by omega), w64 (n := x.Cell - a + c.Belt.length) (by omega) (by omega)]
            have e : (x.Cell - a + c.Belt.length).tmod c.Belt.length = if x.Cell - a < 0 then x.Cell - a + c.Belt.length else x.Cell - a := by
              rw [Int.tmod_eq_emod_of_nonneg (by omega)]
              split
              · rw [Int.emod_eq_of_lt (by omega) (by omega)]
              · rw [Int.add_emod_right, Int.emod_eq_of_lt (by omega) (by omega)]
            rw [e]
            by_cases h5 : x.Cell - a < 0
            · rw [if_pos h5, if_neg (by omega)]
              exact ⟨_, rfl, Or.inr ⟨trivial, by omega, by omega, by omega, x, hx, q1, q2, by omega, by omega, by omega⟩⟩
            · rw [if_neg h5]
              by_cases h6 : x.Cell - a = 0
              · rw [if_pos h6]
                exact ⟨_, rfl, Or.inr ⟨trivial, by omega, by omega, by omega, x, hx, q1, q2, by omega, by omega, by omega⟩⟩
              · rw [if_neg h6]
                exact ⟨_, rfl, Or.inr ⟨trivial, by omega, by omega, by omega, x, hx, q1, q2, by omega, by omega, by omega⟩⟩
  · simp only [hc, if_false]
    exact Ok.ret (Or.inl rfl)
theorem drawCells_ok (a : List Int) (h : a.length ≤ 1000000) : Ok (fun r => r.1.tot ≤ 1048576) (S_DrawCellsTo G.real TE.real a) := by
  unfold S_DrawCellsTo
  exact Ok.lP (Ok.cl (any_ok _ (new_cur a h)) fun x hx => Ok.cl (l1Below_ok _ hx.2 _) fun y hy => Ok.cl (l1Below_ok _ hy.2.2 _) fun z _ => Ok.ret hx.1)

/-- a belt with one item -/
def one (n p : Nat) : List Item := (List.replicate n ⟨0, 0⟩).set p ⟨7, 0⟩
theorem one_get (n p j : Nat) : (one n p)[j]? = if j < n then some (if p = j then ⟨7, 0⟩ else ⟨0, 0⟩) else none := by
  unfold one
  rw [List.getElem?_set]
  simp only [List.length_replicate, List.getElem?_replicate]
  split <;> split <;> simp_all
theorem one_len (n p : Nat) : (one n p).length = n := by unfold one; simp
def nx (n p : Nat) : Nat := if p + 1 < n then p + 1 else 0
theorem rot_one {n p : Nat} (hp : p < n) : rotP (one n p) = one n (nx n p) := by
  have hl := one_len n p
  have hg : (one n p)[(one n p).length - 1]? = some (if p = n - 1 then ⟨7, 0⟩ else ⟨0, 0⟩) := by rw [hl, one_get, if_pos (show n - 1 < n from by omega)]
  unfold rotP
  rw [hg]
  simp only
  apply List.ext_getElem?
  intro j
  cases j with
  | zero =>
    rw [List.getElem?_cons_zero, one_get, if_pos (show 0 < n from by omega)]
    unfold nx
    by_cases h : p = n - 1
    · rw [if_pos h, if_neg (show ¬ p + 1 < n from by omega), if_pos rfl]
    · rw [if_neg h, if_pos (show p + 1 < n from by omega), if_neg (show ¬ p + 1 = 0 from by omega)]
  | succ j =>
    rw [List.getElem?_cons_succ, List.getElem?_take, hl, one_get, one_get]
    unfold nx
    by_cases h : j < n - 1
    · rw [if_pos h, if_pos (show j < n from by omega), if_pos (show j + 1 < n from by omega)]
      by_cases h3 : p + 1 < n
      · rw [if_pos h3]
        by_cases h2 : p = j
        · rw [if_pos h2, if_pos (show p + 1 = j + 1 from by omega)]
        · rw [if_neg h2, if_neg (show ¬ p + 1 = j + 1 from by omega)]
      · rw [if_neg h3, if_neg (show ¬ p = j from by omega), if_neg (show ¬ 0 = j + 1 from by omega)]
    · rw [if_neg h, if_neg (show ¬ j + 1 < n from by omega)]
def St1 (n p : Nat) (t : Int) (k : Int) : Centre := ⟨one n p, [⟨t, 1, []⟩], [⟨0, []⟩], [0], k⟩
theorem tick_ride {n p : Nat} {t k : Int} (hp : p < n) (ht : 0 ≤ t ∧ t < n) (hne : (nx n p : Int) ≠ t) : tickP (St1 n p t k) = St1 n (nx n p) t (k + 1) := by
  have hb : (one n (nx n p))[t.toNat]? = some ⟨0, 0⟩ := by rw [one_get, if_pos (by omega), if_neg (by omega)]
  unfold tickP St1
  simp only [rot_one hp, chP, hb, inP]
  simp
theorem tick_fall {n p : Nat} {t k : Int} (hp : p < n) (ht : 0 ≤ t ∧ t < n) (he : (nx n p : Int) = t) : tickP (St1 n p t k) = ⟨List.replicate n ⟨0, 0⟩, [⟨t, 1, [⟨7, 0⟩]⟩], [⟨0, []⟩], [0], k + 1⟩ := by
  have hb : (one n (nx n p))[t.toNat]? = some ⟨7, 0⟩ := by rw [one_get, if_pos (by omega), if_pos (by omega)]
  have hs : (one n (nx n p)).set t.toNat ⟨0, 0⟩ = List.replicate n ⟨0, 0⟩ := by
    apply List.ext_getElem?
    intro j
    rw [List.getElem?_set, one_get, one_len, List.getElem?_replicate]
    split <;> split <;> simp_all <;> omega
  unfold tickP St1
  simp only [rot_one hp, chP, hb, inP]
  simp [hs]
def pos (n p j : Nat) : Nat := if p + j < n then p + j else p + j - n
theorem ride {n p d : Nat} {t : Int} (hp : p < n) (ht : 0 ≤ t ∧ t < n) (hd : 1 ≤ d ∧ d ≤ n) (he : t = (p : Int) + d ∨ t = (p : Int) + d - n) : ∀ j : Nat, j < d → runP j (St1 n p t 0) = St1 n (pos n p j) t j
  | 0, _ => by simp [runP, pos, hp]
  | j + 1, h => by
    have ih := ride hp ht hd he j (by omega)
    have hlt : pos n p j < n := by unfold pos; split <;> omega
    have hn : nx n (pos n p j) = pos n p (j + 1) := by unfold nx pos; split <;> split <;> split <;> omega
    rw [← run_add j 1, ih]
    show tickP _ = _
    rw [tick_ride hlt ht (by rw [hn]; unfold pos; split <;> omega), hn]
    rfl
theorem ride_end {n p d : Nat} {t : Int} (hp : p < n) (ht : 0 ≤ t ∧ t < n) (hd : 1 ≤ d ∧ d ≤ n) (he : t = (p : Int) + d ∨ t = (p : Int) + d - n) : runP d (St1 n p t 0) = ⟨List.replicate n ⟨0, 0⟩, [⟨t, 1, [⟨7, 0⟩]⟩], [⟨0, []⟩], [0], d⟩ := by
  obtain ⟨e, rfl⟩ : ∃ e, d = e + 1 := ⟨d - 1, by omega⟩
  have hlt : pos n p e < n := by unfold pos; split <;> omega
  rw [← run_add e 1, ride hp ht hd he e (by omega)]
  show tickP _ = _
  rw [tick_fall hlt ht (by unfold nx pos; split <;> split <;> omega)]
  rfl
theorem where_hit (a : Int) (l : List Item) : ∀ v, (∃ x ∈ l, x.Id = a) → ∃ j, I_WhereIs_l1 G.real TE.real a l v = .ret (1, j) := by
  induction l with
  | nil => rintro v ⟨x, hx, _⟩; cases hx
  | cons z l ih =>
    rintro v ⟨x, hx, e⟩
    rw [I_WhereIs_l1]
    simp only [R_eq, br_dec]
    split
    · exact ⟨v, rfl⟩
    · rename_i hz
      rcases List.mem_cons.1 hx with rfl | hx
      · exact absurd e hz
      · exact ih _ ⟨x, hx, e⟩
theorem where_miss (a : Int) (l : List Item) : ∀ v, (∀ x ∈ l, x.Id ≠ a) → I_WhereIs_l1 G.real TE.real a l v = .out () := by
  induction l with
  | nil => intro v _; rw [I_WhereIs_l1]
  | cons z l ih =>
    intro v h
    rw [I_WhereIs_l1]
    simp only [R_eq, br_dec]
    rw [if_neg (h z (by simp))]
    exact ih _ fun x hx => h x (by simp [hx])
theorem new1 {n : Nat} {t : Int} (hn : 2 ≤ n ∧ n ≤ 24) (ht : 0 ≤ t ∧ t < n) : I_NewCentre G.real TE.real (n : Int) [t] 1 [0] [0] = some (⟨List.replicate n ⟨0, 0⟩, [⟨t, 1, []⟩], [⟨0, []⟩], [0], 0⟩, true) := by
  obtain ⟨a1, _⟩ := newCentre_l1 1 [t] [] (by simp)
  obtain ⟨b1, _⟩ := newCentre_l2 [0] [] (by simp)
  obtain ⟨c1, _⟩ := newCentre_l2 [0] [] (by simp)
  unfold I_NewCentre
  rw [a1, b1]
  simp only [cl_some, lP_eq, within_r, br_dec, R_nat, List.nil_append, List.length_nil, Nat.zero_add, Int.toNat_natCast, List.map_cons, List.map_nil, List.length_cons]
  rw [if_pos (by omega), gd_true (by omega), gd_true (by omega)]
  have hi : IsC (Centre.mk (List.replicate n ⟨0, 0⟩) [⟨t, 1, []⟩] [⟨0, []⟩] [0] 0) := by
    have hit : itemsOf (Centre.mk (List.replicate n ⟨0, 0⟩) [⟨t, 1, []⟩] [⟨0, []⟩] [0] 0) = [] := by
      unfold itemsOf
      simp [nz]
    exact ⟨by simp; omega, by simp, by simp, by simp, by simp, by simp [chOk]; omega, by simp, by simp [inOk]; omega, by simp, by simp [plOk], by rw [hit]; simp, by rw [hit]; simp⟩
  rw [iCentre_r _ (by have := hi.d.tot; omega)]
  simp only [cl_some, br_dec]
  rw [if_pos hi]
theorem one_ok {n p : Nat} {t : Int} (hn : 2 ≤ n ∧ n ≤ 24) (hp : p < n) (ht : 0 ≤ t ∧ t < n) : IsC (St1 n p t 0) := by
  have hit : itemsOf (St1 n p t 0) = [⟨7, 0⟩] := by
    unfold itemsOf St1
    have : ∀ (m q : Nat), q < m → (one m q).filter nz = [⟨7, 0⟩] := by
      intro m
      induction m with
      | zero => intro q hq; omega
      | succ m ih =>
        intro q hq
        cases q with
        | zero => simp [one, List.replicate_succ, nz]
        | succ q =>
          have := ih q (by omega)
          unfold one at this ⊢
          rw [List.replicate_succ, List.set_cons_succ, List.filter_cons, if_neg (by simp [nz]), this]
    simp [this n p hp]
  have hl := one_len n p
  refine ⟨by simp only [St1, hl]; omega, by simp [St1], by simp [St1], by simp [St1], by simp [St1], ?_, by simp [St1], ?_, by simp [St1], by simp [St1, plOk], by rw [hit]; simp [St1, itOk], by rw [hit]; simp⟩
  · intro x hx
    simp only [St1, List.mem_singleton] at hx
    subst hx
    simp only [St1, hl]
    simp [chOk]; omega
  · intro x hx
    simp only [St1, List.mem_singleton] at hx
    subst hx
    simp only [St1, hl]
    simp [inOk]; omega
theorem law10 (a : List Int) (h : a.length ≤ 9223372036854775807 ∧ ∀ x ∈ a, 0 ≤ x ∧ x ≤ 255) : L_FnCells G.real TE.real a = some true := by
  refine Tr.eq ?_
  unfold L_FnCells
  refine Tr.big fun hl => ?_
  refine Ok.cl (drawCells_ok a (by omega)) fun x hx => ?_
  obtain ⟨c, p0, b⟩ := x
  simp only at hx ⊢
  refine Ok.cl (cellsTo_ok c hx p0 b) fun d hd => ?_
  refine Ok.br (fun _ => Ok.ret rfl) fun hne => ?_
  have hne : d ≠ -1 := by simpa using hne
  rcases hd with hd | ⟨hc, h1, h2, h3, y, hy, q1, q2, d1, d2, he⟩
  · exact absurd hd hne
  refine Ok.br (fun _ => Ok.ret (by simp; omega)) fun _ => ?_
  obtain ⟨m, rfl⟩ : ∃ m : Nat, d = m := ⟨d.toNat, by omega⟩
  obtain ⟨p, rfl⟩ : ∃ p : Nat, p0 = p := ⟨p0.toNat, by omega⟩
  have hb := hc.belt
  generalize hn : c.Belt.length = n at *
  refine Ok.gd h3 (Ok.gt hy (Ok.lP (Ok.lP (Ok.lP ?_))))
  simp only [llen_Item, hn]
  rw [new1 hb ⟨q1, q2⟩, cl_some, br_t]
  simp only [R_nat, Int.toNat_natCast, dlenx_Item, R_sub, List.length_replicate]
  have hz : (List.replicate n (⟨0, 0⟩ : Item))[p]? = some ⟨0, 0⟩ := by rw [List.getElem?_replicate, if_pos (by omega)]
  refine Ok.gd (by omega) (Ok.gt hz (Ok.lP ?_))
  rw [show (Centre.mk ((List.replicate n (⟨0, 0⟩ : Item)).set p ⟨7, 0⟩) [⟨y.Cell, 1, []⟩] [⟨0, []⟩] [0] 0) = St1 n p y.Cell 0 from rfl]
  have hi := one_ok (t := y.Cell) hb (p := p) (by omega) ⟨q1, q2⟩
  have htot := hi.d.tot
  rw [w64 (by omega) (by omega)]
  obtain ⟨r, r1, _, r3, r4, _⟩ := runCentre_eq (St1 n p y.Cell 0) (by omega) ((m : Int) - 1)
  obtain ⟨s, s1, _, s3, s4, _⟩ := runCentre_eq (St1 n p y.Cell 0) (by omega) (m : Int)
  have er := r4 hi (by omega) (by show (0 : Int) + _ ≤ _; omega)
  have es := s4 hi (by omega) (by show (0 : Int) + _ ≤ _; omega)
  rw [show ((m : Int) - 1).toNat = m - 1 from by omega] at er
  rw [Int.toNat_natCast] at es
  have hR : IsC r := by
    rw [er]
    exact (runD _ hi.d).c (by rw [run_now]; show (0 : Int) ≤ 0 + _ ∧ (0 : Int) + _ ≤ _; omega)
  have hS : IsC s := by
    rw [es]
    exact (runD _ hi.d).c (by rw [run_now]; show (0 : Int) ≤ 0 + _ ∧ (0 : Int) + _ ≤ _; omega)
  have vr := ride (n := n) (p := p) (d := m) (t := y.Cell) (by omega) ⟨q1, q2⟩ (by omega) (by omega) (m - 1) (by omega)
  have vs := ride_end (n := n) (p := p) (d := m) (t := y.Cell) (by omega) ⟨q1, q2⟩ (by omega) (by omega)
  have wr : Ok (fun z => z.1 = 1) (I_WhereIs G.real TE.real r 7) := by
    unfold I_WhereIs
    rw [iCentre_r r r3]
    simp only [cl_some, br_dec, R_eq, lP_eq]
    rw [if_pos hR, if_neg (by omega)]
    obtain ⟨j, hj⟩ := where_hit 7 r.Belt 0 (by
      rw [er, vr]
      refine ⟨⟨7, 0⟩, ?_, rfl⟩
      have hlt : pos n p (m - 1) < n := by unfold pos; split <;> omega
      exact List.mem_of_getElem? (i := pos n p (m - 1)) (by simp only [St1]; rw [one_get, if_pos hlt, if_pos rfl]))
    rw [hj]
    exact Ok.ret rfl
  have ws : I_WhereIs G.real TE.real s 7 = some (2, 0) := by
    unfold I_WhereIs
    rw [iCentre_r s s3]
    simp only [cl_some, br_dec, R_eq, lP_eq]
    rw [if_pos hS, if_neg (by omega), where_miss 7 s.Belt 0 (by
      rw [es, vs]
      intro x hx
      rw [(List.mem_replicate.1 hx).2]
      decide)]
    rw [es, vs]
    rfl
  rw [r1, cl_some]
  refine Ok.cl wr fun z hz1 => ?_
  rw [s1, cl_some, ws, cl_some]
  simp only [R_eq, hz1, decide_true, br_t, R_le]
  exact Ok.ret (by simp; omega)
end Go.Vs
namespace Go.Proofs.Ytieeagobedjogaa.fnCells
open Go.Vs Go.RowKit Go.WideShapes Go.ChangeShapes
set_option linter.unusedVariables false
set_option maxRecDepth 100000
theorem given (as0 : List A) (h : ArgsIs Try.prog 8 Try.f10.params.toList as0) : Go.Vs.Fn Try.prog 10 as0 (.c (.r (.v (.bool true)))) := by
  rw [Try.params10] at h
  obtain ⟨x0, xs0, rfl, ⟨ts0, t0, q0⟩, h⟩ := h
  rw [show tyOf Try.prog 8 39 = some [.sl [.int .u8]] from by kernel_rfl] at t0
  cases t0
  rw [show aggT Try.prog 39 = false from by kernel_rfl] at q0
  obtain ⟨r0, rfl, q0⟩ := q0
  obtain ⟨_, _, e0, q0, e0_⟩ := is_cons q0
  cases e0
  obtain ⟨b0, rfl, l0, q0⟩ := is_sl q0
  obtain ⟨a0, rfl, p0⟩ := rows_is is_U8 b0 q0
  rw [List.length_map] at l0
  have h := h
  subst h
  exact c_L_FnCells rfl rfl (law10 _ ⟨l0, p0⟩)
theorem lifted (os : Os) (started : os.Started) (H : Type) (enc : TypeId × Value → H) :
    ReturnsInHanded {} Try.checked os 10 .any (Rows.fnCellsSpec.pre6 enc Try.prog Try.f10 Rows.fnCellsRow.domain false) (Rows.fnCellsSpec.post enc Try.prog Try.f10 false true false false) := by
  refine returnsInHanded_of_change (C := Try.checked) (s := Rows.fnCellsSpec) (by kernel_rfl) started (by kernel_rfl) Try.func10
    (ChangeSpec.witness6 (enc := enc) (C := Try.checked) false ⟨#[], #[.slice none 0 0], []⟩ 8 (by kernel_rfl) (by kernel_rfl) (by kernel_rfl) (by kernel_rfl)) ?_
  intro W base args ds gs before hval hW _ _
  refine law_contract (n := 8) (tb := 4) rfl rfl Try.underlying4 (by kernel_rfl) (by kernel_rfl) (fun ds hl => ?_) given W base args ds gs before hval hW
  rw [Try.params10] at hl
  match ds, hl with
  | [d0], _ => exact ⟨rfl, rfl, rfl⟩
theorem facts : joinedFacts Try.prog 10 Try.f10 Rows.fnCellsSpec Rows.fnCellsRow = true := by
  unfold joinedFacts
  exact (and_i (and_i (and_i (and_i (and_i (and_i (and_i (and_i (and_i (and_i (and_i (and_i (and_i (and_i (and_i (and_i (and_i (and_i (and_i (and_i (and_i (and_i (and_i (and_i (and_i (and_i (and_i (and_i (and_i (and_i (and_i (by kernel_rfl) io_laid) io_maps) (by kernel_rfl)) (by kernel_rfl)) (by kernel_rfl)) (by kernel_rfl)) (by kernel_rfl)) (by kernel_rfl)) (by kernel_rfl)) (by kernel_rfl)) (by kernel_rfl)) (by kernel_rfl)) (by kernel_rfl)) (by kernel_rfl)) (by kernel_rfl)) (by kernel_rfl)) (by kernel_rfl)) (by kernel_rfl)) (by kernel_rfl)) (by kernel_rfl)) (by kernel_rfl)) (by kernel_rfl)) (by kernel_rfl)) io_heard) io_enter) (by rw [io_final]; rfl)) (by rw [io_make]; rfl)) (by kernel_rfl)) (by kernel_rfl)) (by kernel_rfl)) (by kernel_rfl))
theorem holds : Rows.FnCellsSaid :=
  OpenClaim.holds_of_wide 10 Try.f10 rfl rfl rfl rfl rfl rfl rfl ⟨rfl, rfl, rfl, rfl, rfl⟩ rfl rfl rfl rfl rfl (by kernel_rfl) Try.func10 facts
    (of_decide_eq_true (by kernel_rfl)) (by unfold Func.isWrapper; first | (rw [if_pos (by decide +kernel)]; kernel_rfl) | (rw [if_neg (by decide +kernel)]; exact ⟨rfl, rfl⟩))
    (fun os started H enc _ => lifted os started H enc)
end Go.Proofs.Ytieeagobedjogaa.fnCells
