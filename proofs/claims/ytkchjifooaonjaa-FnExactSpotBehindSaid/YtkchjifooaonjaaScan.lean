/- Part of the proofs of this seat's laws: Scan. No condition. -/
import Derived.Test.YtkchjifooaonjaaNet
import Derived.Test.YtkchjifooaonjaaLab
import Derived.Test.YtkchjifooaonjaaLaa
import Derived.Test.YtkchjifooaonjaaLac
set_option linter.unusedVariables false
set_option linter.unusedSimpArgs false
set_option linter.unusedSectionVars false
/- The places of a network: both texts give the same row. -/
namespace Go.Vs
open Go.IntWalk
theorem hasS_iff (w : List ByteArray) (x : ByteArray) : G.real.hasS w x = true ↔ x ∈ w := by
  have e : G.real.hasS w x = hasL w x := rfl
  rw [e]
  unfold hasL
  simp
theorem putS_mem (w : List ByteArray) (x z : ByteArray) : z ∈ G.real.putS w x ↔ z ∈ w ∨ z = x := by
  have ep : G.real.putS w x = putL w x := rfl
  rw [ep]
  unfold putL
  split
  · rename_i h
    exact ⟨.inl, fun hh => hh.elim id (fun e => e ▸ h)⟩
  · simp
theorem iPl_l2 (a b : ByteArray) : ∀ (n k : Nat) (w3 w4 : List ByteArray), k + n = 2 → w4.length + n ≤ 5000000 → (∀ p, p ∈ w3 ↔ p ∈ w4) → w4.Nodup →
    ∃ u3 u4, I_PlacesOf_l2 G.real TE.real [a, b] n (k : Int) w3 w4 = some (u3, u4) ∧ (∀ p, p ∈ u3 ↔ p ∈ u4) ∧ u4.Nodup ∧ u4.length ≤ w4.length + n ∧ ∀ p, p ∈ u4 ↔ p ∈ w4 ∨ p ∈ [a, b].drop k
  | 0, k, w3, w4, hk, _, h, hn => by
    rw [I_PlacesOf_l2]
    exact ⟨w3, w4, rfl, h, hn, by omega, fun p => by rw [List.drop_of_length_le (by simp; omega)]; simp⟩
  | n + 1, k, w3, w4, hk, hl, h, hn => by
    have hkl : k < [a, b].length := by simp; omega
    have hx : [a, b][k]? = some ([a, b][k]'hkl) := List.getElem?_eq_getElem hkl
    have hd := List.drop_eq_getElem_cons hkl
    generalize [a, b][k]'hkl = x at hx hd
    rw [I_PlacesOf_l2]
    simp only [R_nat, Int.toNat_natCast, lP_eq, R_add]
    rw [gt_some hx, w64 (by omega) (by omega), show (k : Int) + 1 = ((k + 1 : Nat) : Int) from by omega]
    cases hb : G.real.hasS w3 x with
    | true =>
      have hm := (hasS_iff _ _).1 hb
      rw [br_t]
      obtain ⟨u3, u4, e1, e2, e5, e3, e4⟩ := iPl_l2 a b n (k + 1) w3 w4 (by omega) (by omega) h hn
      refine ⟨u3, u4, e1, e2, e5, by omega, fun p => ?_⟩
      rw [e4, hd]
      simp only [List.mem_cons]
      constructor
      · rintro (q | q)
        · exact .inl q
        · exact .inr (.inr q)
      · rintro (q | rfl | q)
        · exact .inl q
        · exact .inl ((h _).1 hm)
        · exact .inr q
    | false =>
      have hm : x ∉ w3 := fun hh => by rw [(hasS_iff _ _).2 hh] at hb; cases hb
      rw [br_f, gd_true (by simp only [List.length_cons, List.length_nil]; omega)]
      obtain ⟨u3, u4, e1, e2, e5, e3, e4⟩ := iPl_l2 a b n (k + 1) (G.real.putS w3 x) (w4 ++ [x]) (by omega) (by simp; omega) (fun p => by
        rw [putS_mem]; simp [h p]) (by
        rw [List.nodup_append]
        refine ⟨hn, by simp, fun y hy z hz => ?_⟩
        simp only [List.mem_singleton] at hz
        subst hz
        intro e; subst e
        exact hm ((h _).2 hy))
      refine ⟨u3, u4, e1, e2, e5, by simp at e3; omega, fun p => ?_⟩
      rw [e4, hd]
      simp only [List.mem_append, List.mem_cons, List.not_mem_nil, or_false]
      constructor
      · rintro ((q | q) | q)
        · exact .inl q
        · exact .inr (.inl q)
        · exact .inr (.inr q)
      · rintro (q | q | q)
        · exact .inl (.inl q)
        · exact .inl (.inr q)
        · exact .inr q
def ends2 (l : List Leg) : List ByteArray := l.flatMap fun x => [x.From, x.To]
theorem ends2_mem (l : List Leg) (p : ByteArray) : p ∈ ends2 l ↔ ∃ x ∈ l, p = x.From ∨ p = x.To := by
  unfold ends2
  simp [List.mem_flatMap]
theorem iPl_l1 : ∀ (l : List Leg) (w1 w2 : List ByteArray), w2.length + 2 * l.length ≤ 4194304 → (∀ p, p ∈ w1 ↔ p ∈ w2) → w2.Nodup →
    ∃ u, I_PlacesOf_l1 G.real TE.real l w1 w2 = some u ∧ u.Nodup ∧ u.length ≤ w2.length + 2 * l.length ∧ ∀ p, p ∈ u ↔ p ∈ w2 ∨ p ∈ ends2 l
  | [], w1, w2, _, _, hn => by rw [I_PlacesOf_l1]; exact ⟨w2, rfl, hn, by simp, by simp [ends2]⟩
  | z :: l, w1, w2, hl, h, hn => by
    simp only [List.length_cons] at hl
    obtain ⟨u3, u4, e1, e2, e5, e3, e4⟩ := iPl_l2 z.From z.To 2 0 w1 w2 rfl (by omega) h hn
    obtain ⟨u, f1, f4, f2, f3⟩ := iPl_l1 l u3 u4 (by omega) e2 e5
    rw [I_PlacesOf_l1]
    simp only [R_int, dlenx_S, List.length_cons, List.length_nil, lP]
    rw [gd_true (by omega), show cntLt 0 (((0 + 1 + 1 : Nat)) : Int) = 2 from rfl, show (0 : Int) = ((0 : Nat) : Int) from rfl, e1, cl_some]
    refine ⟨u, f1, f4, by omega, fun p => ?_⟩
    rw [f3, e4]
    simp only [ends2, List.flatMap_cons, List.mem_append, List.drop_zero, List.mem_cons, List.not_mem_nil, or_false, or_assoc]
/-- the places of a network -/
def plc (n : Network) : List ByteArray := srtU (ends2 n.Legs)
theorem plc_i {n : Network} (h : n.Legs.length ≤ 1048576) : I_PlacesOf G.real TE.real n = some (plc n) := by
  obtain ⟨u, e1, e4, e2, e3⟩ := iPl_l1 n.Legs [] [] (by simp; omega) (by simp) (by simp)
  simp only [List.length_nil] at e2
  unfold I_PlacesOf
  rw [lP_eq, e1, cl_some]
  unfold X_sort_Strings
  rw [gd_true (by omega), cl_some, gd_true (srtS_len u)]
  congr 1
  refine srtU_eq (srtS_sorted e4) fun x => ?_
  rw [mem_srtS, e3]
  simp
/-- a place put where it belongs -/
def cutS (p : ByteArray) : List ByteArray → Nat
  | [] => 0
  | x :: l => if bLt x p then cutS p l + 1 else 0
theorem cutS_le (p : ByteArray) : ∀ l, cutS p l ≤ l.length
  | [] => by simp [cutS]
  | x :: l => by
    have := cutS_le p l
    unfold cutS
    split <;> simp <;> omega
theorem cutS_take (p : ByteArray) : ∀ l : List ByteArray, ∀ z ∈ l.take (cutS p l), bLt z p
  | [], z, h => by simp at h
  | x :: l, z, h => by
    unfold cutS at h
    split at h
    · rename_i hx
      simp only [List.take_succ_cons, List.mem_cons] at h
      rcases h with rfl | h
      · exact hx
      · exact cutS_take p l z h
    · simp at h
theorem cutS_drop (p : ByteArray) : ∀ {l : List ByteArray}, l.Pairwise bLt → ∀ z ∈ l.drop (cutS p l), ¬ bLt z p
  | [], _, z, h => by simp at h
  | x :: l, hs, z, h => by
    obtain ⟨h1, h2⟩ := List.pairwise_cons.1 hs
    unfold cutS at h
    split at h
    · exact cutS_drop p h2 z (by simpa using h)
    · rename_i hx
      simp only [List.drop_zero, List.mem_cons] at h
      rcases h with rfl | h
      · exact hx
      · exact fun hz => hx (bLt_trans (h1 _ h) hz)
def insS (l : List ByteArray) (p : ByteArray) : List ByteArray := if l[cutS p l]? = some p then l else l.take (cutS p l) ++ p :: l.drop (cutS p l)
theorem insS_mem (l : List ByteArray) (p z : ByteArray) : z ∈ insS l p ↔ z ∈ l ∨ z = p := by
  unfold insS
  split
  · rename_i h
    exact ⟨.inl, fun hh => hh.elim id (fun e => e ▸ List.mem_of_getElem? h)⟩
  · have hm : z ∈ l ↔ z ∈ l.take (cutS p l) ∨ z ∈ l.drop (cutS p l) := by rw [← List.mem_append, List.take_append_drop]
    rw [List.mem_append, List.mem_cons, hm]
    constructor
    · rintro (h | h | h)
      · exact .inl (.inl h)
      · exact .inr h
      · exact .inl (.inr h)
    · rintro ((h | h) | h)
      · exact .inl h
      · exact .inr (.inr h)
      · exact .inr (.inl h)
theorem insS_sorted {l : List ByteArray} (p : ByteArray) (hs : l.Pairwise bLt) : (insS l p).Pairwise bLt := by
  unfold insS
  split
  · exact hs
  · rename_i hne
    have hap : l.Pairwise bLt := hs
    rw [← List.take_append_drop (cutS p l) l, List.pairwise_append] at hap
    obtain ⟨a1, a2, a3⟩ := hap
    have hd : ∀ z ∈ l.drop (cutS p l), bLt p z := fun z hz => by
      rcases bLt_tri p z with h | h | h
      · exact h
      · subst h
        exfalso
        -- p itself behind the cut: then it stands at the cut
        cases hdr : l.drop (cutS p l) with
        | nil => rw [hdr] at hz; simp at hz
        | cons y m =>
          have hy : l[cutS p l]? = some y := by
            have : (l.drop (cutS p l))[0]? = some y := by rw [hdr]; rfl
            simpa using this
          rw [hdr] at hz
          rcases List.mem_cons.1 hz with e | hz
          · subst e; exact hne hy
          · rw [hdr, List.pairwise_cons] at a2
            exact cutS_drop p hs y (by rw [hdr]; simp) (a2.1 _ hz)
      · exact absurd h (cutS_drop p hs z hz)
    rw [List.pairwise_append]
    refine ⟨a1, List.pairwise_cons.2 ⟨hd, a2⟩, fun x hx y hy => ?_⟩
    rcases List.mem_cons.1 hy with rfl | hy
    · exact cutS_take y l x hx
    · exact a3 x hx y hy
theorem insS_len (l : List ByteArray) (p : ByteArray) : (insS l p).length ≤ l.length + 1 := by
  unfold insS
  split
  · omega
  · simp; omega
theorem sPl_l2 (w : List ByteArray) (x : Leg) (hw : w.length ≤ 4194304) : ∀ (n k : Nat), k + n = w.length → S_PlacesOf_l2 G.real TE.real w x n (k : Int) = some ((k + cutS x.To (w.drop k) : Nat) : Int)
  | 0, k, h => by rw [S_PlacesOf_l2, List.drop_of_length_le (by omega)]; rfl
  | n + 1, k, h => by
    have hk : k < w.length := by omega
    rw [S_PlacesOf_l2]
    simp only [R_nat, Int.toNat_natCast, R_add, R_slt, br_dec]
    rw [gt_some (List.getElem?_eq_getElem hk), w64 (by omega) (by omega), show (k : Int) + 1 = ((k + 1 : Nat) : Int) from by omega, sPl_l2 w x hw n (k + 1) (by omega), List.drop_eq_getElem_cons hk, cutS]
    split
    · congr 2; omega
    · rfl
theorem sPl_l3 (w : List ByteArray) (x : Leg) (hw : w.length ≤ 4194304) : ∀ (n k : Nat), k + n = w.length → S_PlacesOf_l3 G.real TE.real w x n (k : Int) = some ((k + cutS x.From (w.drop k) : Nat) : Int)
  | 0, k, h => by rw [S_PlacesOf_l3, List.drop_of_length_le (by omega)]; rfl
  | n + 1, k, h => by
    have hk : k < w.length := by omega
    rw [S_PlacesOf_l3]
    simp only [R_nat, Int.toNat_natCast, R_add, R_slt, br_dec]
    rw [gt_some (List.getElem?_eq_getElem hk), w64 (by omega) (by omega), show (k : Int) + 1 = ((k + 1 : Nat) : Int) from by omega, sPl_l3 w x hw n (k + 1) (by omega), List.drop_eq_getElem_cons hk, cutS]
    split
    · congr 2; omega
    · rfl
/-- what both arms of the spec's round do -/
theorem put_arm {γ : Type} {w : List ByteArray} {p : ByteArray} (hw : w.length ≤ 4194304) {k : List ByteArray → Option γ} {k2 : Option γ} (h2 : w[cutS p w]? = some p → k2 = k w) :
    (br (decide (((cutS p w : Nat) : Int) = (w.length : Int)))
      (gd ((0 : Int) ≤ 0 ∧ 0 ≤ ((cutS p w : Nat) : Int) ∧ ((cutS p w : Nat) : Int) ≤ ((w.length : Nat) : Int)) <|
        gd (Int.toNat 0 + (Int.toNat ((cutS p w : Nat) : Int) - Int.toNat 0) ≤ w.length) <|
        gd ((([] : List ByteArray).length + (List.take (Int.toNat ((cutS p w : Nat) : Int) - Int.toNat 0) (List.drop (Int.toNat 0) w)).length) * 16 ≤ 70368744177664) <|
        gd ((([] ++ (List.take (Int.toNat ((cutS p w : Nat) : Int) - Int.toNat 0) (List.drop (Int.toNat 0) w))).length + [p].length) * 16 ≤ 70368744177664) <|
        gd ((0 : Int) ≤ ((cutS p w : Nat) : Int) ∧ ((cutS p w : Nat) : Int) ≤ (w.length : Int) ∧ (w.length : Int) ≤ ((w.length : Nat) : Int)) <|
        gd (Int.toNat ((cutS p w : Nat) : Int) + (Int.toNat (w.length : Int) - Int.toNat ((cutS p w : Nat) : Int)) ≤ w.length) <|
        gd ((([] ++ (List.take (Int.toNat ((cutS p w : Nat) : Int) - Int.toNat 0) (List.drop (Int.toNat 0) w)) ++ [p]).length + (List.take (Int.toNat (w.length : Int) - Int.toNat ((cutS p w : Nat) : Int)) (List.drop (Int.toNat ((cutS p w : Nat) : Int)) w)).length) * 16 ≤ 70368744177664) <|
        k ([] ++ (List.take (Int.toNat ((cutS p w : Nat) : Int) - Int.toNat 0) (List.drop (Int.toNat 0) w)) ++ [p] ++ (List.take (Int.toNat (w.length : Int) - Int.toNat ((cutS p w : Nat) : Int)) (List.drop (Int.toNat ((cutS p w : Nat) : Int)) w))))
      (gd ((0 : Int) ≤ ((cutS p w : Nat) : Int) ∧ ((cutS p w : Nat) : Int) < ((w.length : Nat) : Int)) <|
        gt w (Int.toNat ((cutS p w : Nat) : Int)) fun x3 =>
        br (decide (x3 = p)) k2
        (gd ((0 : Int) ≤ 0 ∧ 0 ≤ ((cutS p w : Nat) : Int) ∧ ((cutS p w : Nat) : Int) ≤ ((w.length : Nat) : Int)) <|
        gd (Int.toNat 0 + (Int.toNat ((cutS p w : Nat) : Int) - Int.toNat 0) ≤ w.length) <|
        gd ((([] : List ByteArray).length + (List.take (Int.toNat ((cutS p w : Nat) : Int) - Int.toNat 0) (List.drop (Int.toNat 0) w)).length) * 16 ≤ 70368744177664) <|
        gd ((([] ++ (List.take (Int.toNat ((cutS p w : Nat) : Int) - Int.toNat 0) (List.drop (Int.toNat 0) w))).length + [p].length) * 16 ≤ 70368744177664) <|
        gd ((0 : Int) ≤ ((cutS p w : Nat) : Int) ∧ ((cutS p w : Nat) : Int) ≤ (w.length : Int) ∧ (w.length : Int) ≤ ((w.length : Nat) : Int)) <|
        gd (Int.toNat ((cutS p w : Nat) : Int) + (Int.toNat (w.length : Int) - Int.toNat ((cutS p w : Nat) : Int)) ≤ w.length) <|
        gd ((([] ++ (List.take (Int.toNat ((cutS p w : Nat) : Int) - Int.toNat 0) (List.drop (Int.toNat 0) w)) ++ [p]).length + (List.take (Int.toNat (w.length : Int) - Int.toNat ((cutS p w : Nat) : Int)) (List.drop (Int.toNat ((cutS p w : Nat) : Int)) w)).length) * 16 ≤ 70368744177664) <|
        k ([] ++ (List.take (Int.toNat ((cutS p w : Nat) : Int) - Int.toNat 0) (List.drop (Int.toNat 0) w)) ++ [p] ++ (List.take (Int.toNat (w.length : Int) - Int.toNat ((cutS p w : Nat) : Int)) (List.drop (Int.toNat ((cutS p w : Nat) : Int)) w)))))) = k (insS w p) := by
  have hle := cutS_le p w
  have hv : [] ++ (List.take (Int.toNat ((cutS p w : Nat) : Int) - Int.toNat 0) (List.drop (Int.toNat 0) w)) ++ [p] ++ (List.take (Int.toNat (w.length : Int) - Int.toNat ((cutS p w : Nat) : Int)) (List.drop (Int.toNat ((cutS p w : Nat) : Int)) w)) = w.take (cutS p w) ++ p :: w.drop (cutS p w) := by
    simp only [Int.toNat_natCast, Int.toNat_zero, Nat.sub_zero, List.drop_zero, List.nil_append]
    rw [List.take_of_length_le (l := List.drop (cutS p w) w) (by simp)]
    simp
  have hlt : (List.take (cutS p w) w).length ≤ w.length := by simp; omega
  by_cases hc : cutS p w = w.length
  · rw [br_dec, if_pos (by omega)]
    repeat rw [gd_true (by simp; omega)]
    rw [hv]
    unfold insS
    rw [if_neg]
    rw [List.getElem?_eq_none (by omega)]
    simp
  · have hx : w[Int.toNat ((cutS p w : Nat) : Int)]? = some (w[cutS p w]'(by omega)) := by
      rw [Int.toNat_natCast]; exact List.getElem?_eq_getElem (by omega)
    rw [br_dec, if_neg (by omega), gd_true (by omega), gt_some hx, br_dec]
    by_cases he : w[cutS p w]'(by omega) = p
    · have hp : w[cutS p w]? = some p := by rw [List.getElem?_eq_getElem (by omega), he]
      rw [if_pos he, h2 hp]
      unfold insS
      rw [if_pos hp]
    · rw [if_neg he]
      repeat rw [gd_true (by simp; omega)]
      rw [hv]
      unfold insS
      rw [if_neg]
      rw [List.getElem?_eq_getElem (by omega)]
      simpa using he
def ptOf (n : Network) (v : Nat) : ByteArray := if v % 2 = 1 then (lgOf n ((v / 2 : Nat) : Int)).To else (lgOf n ((v / 2 : Nat) : Int)).From
theorem sPl_l1 (n : Network) (hn : n.Legs.length ≤ 1048576) : ∀ (m v : Nat) (w : List ByteArray), v + m = 2 * n.Legs.length → w.length ≤ v → w.Pairwise bLt →
    ∃ u, S_PlacesOf_l1 G.real TE.real n m (v : Int) w = some u ∧ u.Pairwise bLt ∧ ∀ z, z ∈ u ↔ z ∈ w ∨ ∃ j, v ≤ j ∧ j < 2 * n.Legs.length ∧ z = ptOf n j
  | 0, v, w, h, _, hs => by
    rw [S_PlacesOf_l1]
    refine ⟨w, rfl, hs, fun z => ⟨.inl, ?_⟩⟩
    rintro (h2 | ⟨j, h1, h2, _⟩)
    · exact h2
    · omega
  | m + 1, v, w, h, hl, hs => by
    have hq : Int.tdiv (v : Int) 2 = ((v / 2 : Nat) : Int) := by rw [Int.tdiv_eq_ediv_of_nonneg (by omega)]; omega
    have hr : Int.tmod (v : Int) 2 = ((v % 2 : Nat) : Int) := by rw [Int.tmod_eq_emod_of_nonneg (by omega)]; omega
    have hlt : v / 2 < n.Legs.length := by omega
    have hg : n.Legs[v / 2]? = some (lgOf n ((v / 2 : Nat) : Int)) := by
      have := lg_get (n := n) (l := ((v / 2 : Nat) : Int)) (by omega) (by omega)
      rwa [Int.toNat_natCast] at this
    obtain ⟨u, e1, e2, e3⟩ := sPl_l1 n hn m (v + 1) (insS w (ptOf n v)) (by omega) (by have := insS_len w (ptOf n v); omega) (insS_sorted _ hs)
    refine ⟨u, ?_, e2, fun z => ?_⟩
    · rw [← e1, S_PlacesOf_l1]
      simp only [R_quo, R_rem, R_add, R_nat, R_int, dlenx_S, R_eq, hq, hr, lP_eq, R_seqd, R_nsub, R_nadd]
      rw [w64 (n := ((v / 2 : Nat) : Int)) (by omega) (by omega), gd_true (by omega), Int.toNat_natCast (v / 2), gt_some hg, w64 (n := (v : Int) + 1) (by omega) (by omega), show (v : Int) + 1 = ((v + 1 : Nat) : Int) from by omega]
      have cn : cntLt 0 (w.length : Int) = w.length := by unfold cntLt; omega
      have z2 : S_PlacesOf_l2 G.real TE.real w (lgOf n ((v / 2 : Nat) : Int)) w.length 0 = some ((cutS (lgOf n ((v / 2 : Nat) : Int)).To w : Nat) : Int) := by simpa using sPl_l2 w (lgOf n ((v / 2 : Nat) : Int)) (by omega) w.length 0 (by omega)
      have z3 : S_PlacesOf_l3 G.real TE.real w (lgOf n ((v / 2 : Nat) : Int)) w.length 0 = some ((cutS (lgOf n ((v / 2 : Nat) : Int)).From w : Nat) : Int) := by simpa using sPl_l3 w (lgOf n ((v / 2 : Nat) : Int)) (by omega) w.length 0 (by omega)
      rw [gd_true (c := (0 : Int) ≤ ((v / 2 : Nat) : Int)) (by omega), gd_true (by omega), cn, z2, z3, cl_some, cl_some]
      by_cases hv : v % 2 = 1
      · have hp : ptOf n v = (lgOf n ((v / 2 : Nat) : Int)).To := by unfold ptOf; rw [if_pos hv]
        rw [br_dec, if_pos (by omega)]
        have := put_arm (γ := List ByteArray) (w := w) (p := (lgOf n ((v / 2 : Nat) : Int)).To) (by omega) (k := fun l => S_PlacesOf_l1 G.real TE.real n m ((v + 1 : Nat) : Int) l) (k2 := S_PlacesOf_l1 G.real TE.real n m ((v + 1 : Nat) : Int) w) (fun _ => rfl)
        rw [hp]
        exact this
      · have hp : ptOf n v = (lgOf n ((v / 2 : Nat) : Int)).From := by unfold ptOf; rw [if_neg hv]
        rw [br_dec, if_neg (by omega)]
        have := put_arm (γ := List ByteArray) (w := w) (p := (lgOf n ((v / 2 : Nat) : Int)).From) (by omega) (k := fun l => S_PlacesOf_l1 G.real TE.real n m ((v + 1 : Nat) : Int) l) (k2 := S_PlacesOf_l1 G.real TE.real n m ((v + 1 : Nat) : Int) w) (fun _ => rfl)
        rw [hp, gd_true (by omega)]
        exact this
    · rw [e3, insS_mem]
      constructor
      · rintro ((h1 | h1) | ⟨j, h1, h2, h3⟩)
        · exact .inl h1
        · exact .inr ⟨v, by omega, by omega, h1⟩
        · exact .inr ⟨j, by omega, h2, h3⟩
      · rintro (h1 | ⟨j, h1, h2, h3⟩)
        · exact .inl (.inl h1)
        · by_cases hj : j = v
          · subst hj; exact .inl (.inr h3)
          · exact .inr ⟨j, by omega, h2, h3⟩
theorem plc_s {n : Network} (h : n.Legs.length ≤ 1048576) : S_PlacesOf G.real TE.real n = some (plc n) := by
  obtain ⟨u, e1, e2, e3⟩ := sPl_l1 n h (2 * n.Legs.length) 0 [] (by omega) (by simp) (by simp)
  unfold S_PlacesOf
  simp only [lP_eq, R_mul, llen_Leg]
  have cn : cntLt 0 (2 * (n.Legs.length : Int)) = 2 * n.Legs.length := by unfold cntLt; omega
  rw [w64 (by omega) (by omega), gd_true (by omega), cn, show (0 : Int) = ((0 : Nat) : Int) from rfl, e1, cl_some]
  congr 1
  refine srtU_eq e2 fun z => ?_
  rw [e3, ends2_mem]
  simp only [List.not_mem_nil, false_or]
  constructor
  · rintro ⟨j, _, h2, h3⟩
    have hm : lgOf n ((j / 2 : Nat) : Int) ∈ n.Legs := lg_mem (by omega) (by omega)
    unfold ptOf at h3
    split at h3
    · exact ⟨_, hm, .inr h3⟩
    · exact ⟨_, hm, .inl h3⟩
  · rintro ⟨x, hx, hz⟩
    obtain ⟨i, hi, rfl⟩ := List.getElem_of_mem hx
    have hlg : lgOf n ((i : Nat) : Int) = n.Legs[i] := by
      have := lg_get (n := n) (l := ((i : Nat) : Int)) (by omega) (by omega)
      rw [Int.toNat_natCast, List.getElem?_eq_getElem hi] at this
      exact (Option.some.inj this).symm
    rcases hz with hz | hz
    · refine ⟨2 * i, by omega, by omega, ?_⟩
      unfold ptOf
      rw [if_neg (by omega), show 2 * i / 2 = i by omega, hlg]; exact hz
    · refine ⟨2 * i + 1, by omega, by omega, ?_⟩
      unfold ptOf
      rw [if_pos (by omega), show (2 * i + 1) / 2 = i by omega, hlg]; exact hz
theorem plc_nodup (n : Network) : (plc n).Nodup := srtU_nodup _
theorem plc_mem (n : Network) (z : ByteArray) : z ∈ plc n ↔ ∃ x ∈ n.Legs, z = x.From ∨ z = x.To := by unfold plc; rw [srtU_mem, ends2_mem]
theorem plc_len (n : Network) : (plc n).length ≤ 2 * n.Legs.length := by
  refine Nat.le_trans (srtU_len _) ?_
  unfold ends2
  induction n.Legs with
  | nil => simp
  | cons x l ih => simp only [List.flatMap_cons, List.length_append, List.length_cons, List.length_nil]; omega
theorem pAt_l1 (s : ByteArray) : ∀ (l : List ByteArray) (v : Int), 0 ≤ v → v + l.length ≤ 4194304 → I_placeAt_l1 G.real TE.real s l v = if s ∈ l then .ret (v + ixN l s) else .out ()
  | [], v, _, _ => by rw [I_placeAt_l1]; simp
  | z :: l, v, h0, h1 => by
    simp only [List.length_cons] at h1
    rw [I_placeAt_l1]
    simp only [R_seqd, R_add, br_dec]
    rw [w64 (by omega) (by omega), pAt_l1 s l (v + 1) (by omega) (by omega)]
    by_cases h : z = s
    · rw [if_pos h, if_pos (by simp [h])]
      unfold ixN
      rw [if_pos h]; simp
    · rw [if_neg h]
      by_cases hm : s ∈ l
      · rw [if_pos hm, if_pos (by simp [hm])]
        congr 1
        conv => rhs; unfold ixN
        rw [if_neg h]; omega
      · rw [if_neg hm, if_neg (by simp [hm]; exact fun e => h e.symm)]
theorem pAt_i {l : List ByteArray} (h : l.length ≤ 4194304) (s : ByteArray) : I_placeAt G.real TE.real l s = ix l s := by
  unfold I_placeAt
  rw [pAt_l1 s l 0 (by omega) (by omega), lP_eq]
  unfold ix
  split <;> simp
theorem sAt_l1 (s : ByteArray) : ∀ (l : List ByteArray) (v : Int), S_l4Index_l1 G.real TE.real s l v = I_placeAt_l1 G.real TE.real s l v
  | [], v => by rw [S_l4Index_l1, I_placeAt_l1]
  | z :: l, v => by rw [S_l4Index_l1, I_placeAt_l1, sAt_l1 s l]
theorem pAt_s {l : List ByteArray} (h : l.length ≤ 4194304) (s : ByteArray) : S_l4Index G.real TE.real l s = ix l s := by
  rw [← pAt_i h s]
  unfold S_l4Index I_placeAt
  rw [sAt_l1]
end Go.Vs
/- Scans: which are valid, where they put a thing. -/
namespace Go.Vs
open Go.IntWalk
def scB (n : Network) (s : Scan) : Bool :=
  netB n && (decide (1 ≤ s.Thing ∧ s.Thing ≤ 9999) && (decide (0 ≤ s.At ∧ s.At ≤ 100000) &&
  (if s.Kind = 1 ∨ s.Kind = 4 then decide (s.Place ∈ plc n) && decide (s.Trip.Leg = 0 ∧ s.Trip.Day = 0)
   else if s.Kind = 3 then decide (s.Place = str_k0) && (runsB n s.Trip.Leg s.Trip.Day && decide (s.At ≤ stN n s.Trip.Leg s.Trip.Day))
   else if s.Kind = 2 then decide (s.Place = str_k0) && (runsB n s.Trip.Leg s.Trip.Day && decide (enN n s.Trip.Leg s.Trip.Day ≤ s.At)) else false)))
theorem sc_i {n : Network} (ht : n.tot ≤ 1048576) (s : Scan) : I_IsScan G.real TE.real n s = some (scB n s) := by
  unfold I_IsScan scB
  rw [net_i ht]
  cases hb : netB n with
  | false => rfl
  | true =>
    have hn := net_ok ht hb
    have hl := hn.len
    have pl := plc_len n
    have htr : ∀ q : Trip, I_IsTrip G.real TE.real n q = some (runsB n q.Leg q.Day) := fun q => by rw [trip_i ht]; unfold tripB; rw [hb]; rfl
    simp only [cl_some, br_t, lP_eq, within_r, br_dec, R_eq, R_le, R_seqd, R_all, Bool.true_and, htr]
    rw [plc_i (by omega)]
    simp only [cl_some, pAt_i (show (plc n).length ≤ 4194304 by omega), ix_nonneg]
    by_cases h1 : 1 ≤ s.Thing ∧ s.Thing ≤ 9999
    · rw [if_pos h1, decide_eq_true h1, Bool.true_and]
      by_cases h2 : 0 ≤ s.At ∧ s.At ≤ 100000
      · rw [if_pos h2, decide_eq_true h2, Bool.true_and]
        have hal : (List.all [decide (s.Trip.Leg = 0), decide (s.Trip.Day = 0)] id) = decide (s.Trip.Leg = 0 ∧ s.Trip.Day = 0) := by simp
        by_cases k1 : s.Kind = 1
        · rw [if_pos k1, if_pos (c := s.Kind = 1 ∨ s.Kind = 4) (.inl k1), hal]
          by_cases hp : s.Place ∈ plc n
          · rw [if_pos hp, decide_eq_true hp]; rfl
          · rw [if_neg hp, decide_eq_false hp]; rfl
        · rw [if_neg k1]
          by_cases k4 : s.Kind = 4
          · rw [if_pos k4, if_pos (c := s.Kind = 1 ∨ s.Kind = 4) (.inr k4), hal]
            by_cases hp : s.Place ∈ plc n
            · rw [if_pos hp, decide_eq_true hp]; rfl
            · rw [if_neg hp, decide_eq_false hp]; rfl
          · rw [if_neg k4, if_neg (c := s.Kind = 1 ∨ s.Kind = 4) (fun h => h.elim k1 k4)]
            by_cases k3 : s.Kind = 3
            · rw [if_pos k3, if_pos k3]
              by_cases hp : s.Place = str_k0
              · rw [if_pos hp, decide_eq_true hp, Bool.true_and]
                cases hr : runsB n s.Trip.Leg s.Trip.Day with
                | false => rfl
                | true =>
                  obtain ⟨r1, r2, r3, r4⟩ := runs_ok (n := n) (by omega) hr
                  rw [br_t, start_i hn r1 r2 r3 r4]; rfl
              · rw [if_neg hp, decide_eq_false hp]; rfl
            · rw [if_neg k3, if_neg k3]
              by_cases k2 : s.Kind = 2
              · rw [if_pos k2, if_pos k2]
                by_cases hp : s.Place = str_k0
                · rw [if_pos hp, decide_eq_true hp, Bool.true_and]
                  cases hr : runsB n s.Trip.Leg s.Trip.Day with
                  | false => rfl
                  | true =>
                    obtain ⟨r1, r2, r3, r4⟩ := runs_ok (n := n) (by omega) hr
                    rw [br_t, end_i hn r1 r2 r3 r4]; rfl
                · rw [if_neg hp, decide_eq_false hp]; rfl
              · rw [if_neg k2, if_neg k2]
      · rw [if_neg h2, decide_eq_false h2]; rfl
    · rw [if_neg h1, decide_eq_false h1]; rfl
theorem sc_s {n : Network} (ht : n.tot ≤ 1048576) (s : Scan) : S_IsScan G.real TE.real n s = some (scB n s) := by
  unfold S_IsScan scB
  rw [net_s ht]
  cases hb : netB n with
  | false => rfl
  | true =>
    have hn := net_ok ht hb
    have hl := hn.len
    have pl := plc_len n
    have htr : ∀ q : Trip, S_IsTrip G.real TE.real n q = some (runsB n q.Leg q.Day) := fun q => by rw [trip_s ht]; unfold tripB; rw [hb]; rfl
    simp only [cl_some, br_t, lP_eq, l1In_r, br_dec, R_eq, R_le, R_seqd, R_all, Bool.true_and, htr]
    rw [plc_s (by omega)]
    simp only [cl_some, pAt_s (show (plc n).length ≤ 4194304 by omega), ix_nonneg]
    by_cases h1 : 1 ≤ s.Thing ∧ s.Thing ≤ 9999
    · rw [if_pos h1, decide_eq_true h1, Bool.true_and]
      by_cases h2 : 0 ≤ s.At ∧ s.At ≤ 100000
      · rw [if_pos h2, decide_eq_true h2, Bool.true_and]
        have hal : (List.all [decide (s.Trip.Leg = 0), decide (s.Trip.Day = 0)] id) = decide (s.Trip.Leg = 0 ∧ s.Trip.Day = 0) := by simp
        by_cases k1 : s.Kind = 1
        · rw [if_pos k1, if_pos (c := s.Kind = 1 ∨ s.Kind = 4) (.inl k1), hal]
          by_cases hp : s.Place ∈ plc n
          · rw [if_pos hp, decide_eq_true hp]; rfl
          · rw [if_neg hp, decide_eq_false hp]; rfl
        · rw [if_neg k1]
          by_cases k4 : s.Kind = 4
          · rw [if_pos k4, if_pos (c := s.Kind = 1 ∨ s.Kind = 4) (.inr k4), hal]
            by_cases hp : s.Place ∈ plc n
            · rw [if_pos hp, decide_eq_true hp]; rfl
            · rw [if_neg hp, decide_eq_false hp]; rfl
          · rw [if_neg k4, if_neg (c := s.Kind = 1 ∨ s.Kind = 4) (fun h => h.elim k1 k4)]
            by_cases k3 : s.Kind = 3
            · rw [if_pos k3, if_pos k3]
              by_cases hp : s.Place = str_k0
              · rw [if_pos hp, decide_eq_true hp, Bool.true_and]
                cases hr : runsB n s.Trip.Leg s.Trip.Day with
                | false => rfl
                | true =>
                  obtain ⟨r1, r2, r3, r4⟩ := runs_ok (n := n) (by omega) hr
                  rw [br_t, start_s hn r1 r2 r3 r4]; rfl
              · rw [if_neg hp, decide_eq_false hp]; rfl
            · rw [if_neg k3, if_neg k3]
              by_cases k2 : s.Kind = 2
              · rw [if_pos k2, if_pos k2]
                by_cases hp : s.Place = str_k0
                · rw [if_pos hp, decide_eq_true hp, Bool.true_and]
                  cases hr : runsB n s.Trip.Leg s.Trip.Day with
                  | false => rfl
                  | true =>
                    obtain ⟨r1, r2, r3, r4⟩ := runs_ok (n := n) (by omega) hr
                    rw [br_t, end_s hn r1 r2 r3 r4]; rfl
                · rw [if_neg hp, decide_eq_false hp]; rfl
              · rw [if_neg k2, if_neg k2]
      · rw [if_neg h2, decide_eq_false h2]; rfl
    · rw [if_neg h1, decide_eq_false h1]; rfl
structure ScOk (n : Network) (s : Scan) : Prop where
  net : netB n = true
  thing : 1 ≤ s.Thing ∧ s.Thing ≤ 9999
  time : 0 ≤ s.At ∧ s.At ≤ 100000
  kind : s.Kind = 1 ∨ s.Kind = 2 ∨ s.Kind = 3 ∨ s.Kind = 4
  at_ : s.Kind = 1 ∨ s.Kind = 4 → s.Place ∈ plc n ∧ s.Trip.Leg = 0 ∧ s.Trip.Day = 0
  load : s.Kind = 3 → s.Place = str_k0 ∧ runsB n s.Trip.Leg s.Trip.Day = true ∧ s.At ≤ stN n s.Trip.Leg s.Trip.Day
  drop : s.Kind = 2 → s.Place = str_k0 ∧ runsB n s.Trip.Leg s.Trip.Day = true ∧ enN n s.Trip.Leg s.Trip.Day ≤ s.At
theorem sc_ok {n : Network} {s : Scan} (h : scB n s = true) : ScOk n s := by
  unfold scB at h
  simp only [Bool.and_eq_true, decide_eq_true_eq] at h
  obtain ⟨h1, h2, h3, h4⟩ := h
  by_cases k1 : s.Kind = 1 ∨ s.Kind = 4
  · rw [if_pos k1] at h4
    simp only [Bool.and_eq_true, decide_eq_true_eq] at h4
    exact ⟨h1, h2, h3, by omega, fun _ => h4, fun h => by omega, fun h => by omega⟩
  · rw [if_neg k1] at h4
    by_cases k3 : s.Kind = 3
    · rw [if_pos k3] at h4
      simp only [Bool.and_eq_true, decide_eq_true_eq] at h4
      exact ⟨h1, h2, h3, by omega, fun h => absurd h k1, fun _ => h4, fun h => by omega⟩
    · rw [if_neg k3] at h4
      by_cases k2 : s.Kind = 2
      · rw [if_pos k2] at h4
        simp only [Bool.and_eq_true, decide_eq_true_eq] at h4
        exact ⟨h1, h2, h3, by omega, fun h => absurd h k1, fun h => absurd h k3, fun _ => h4⟩
      · rw [if_neg k2] at h4; cases h4
/-- the trip of a scan that speaks of one -/
theorem sc_trip {n : Network} (ht : n.tot ≤ 1048576) {s : Scan} (h : ScOk n s) (hk : s.Kind = 3 ∨ s.Kind = 2) : NetOk n ∧ runsB n s.Trip.Leg s.Trip.Day = true ∧ 0 ≤ s.Trip.Leg ∧ s.Trip.Leg < n.Legs.length ∧ 0 ≤ s.Trip.Day ∧ s.Trip.Day ≤ 60 := by
  have hn := net_ok ht h.net
  have hl := hn.len
  have hr : runsB n s.Trip.Leg s.Trip.Day = true := by
    rcases hk with hk | hk
    · exact (h.load hk).2.1
    · exact (h.drop hk).2.1
  obtain ⟨r1, r2, r3, r4⟩ := runs_ok (n := n) (by omega) hr
  exact ⟨hn, hr, r1, r2, r3, r4⟩
def plB (n : Network) (s : Scan) : ByteArray := if scB n s = true then (if s.Kind = 3 then (lgOf n s.Trip.Leg).From else if s.Kind = 2 then (lgOf n s.Trip.Leg).To else s.Place) else str_k0
def bhB (n : Network) (s : Scan) : Spot := if scB n s = true then (if s.Kind = 3 then ⟨(lgOf n s.Trip.Leg).To, enN n s.Trip.Leg s.Trip.Day⟩ else ⟨plB n s, s.At⟩) else ⟨.empty, 0⟩
def bfB (n : Network) (s : Scan) : Spot := if scB n s = true then (if s.Kind = 3 ∨ s.Kind = 2 then ⟨(lgOf n s.Trip.Leg).From, stN n s.Trip.Leg s.Trip.Day⟩ else ⟨s.Place, s.At⟩) else ⟨.empty, 0⟩
theorem pl_i {n : Network} (ht : n.tot ≤ 1048576) (s : Scan) : I_PlaceOf G.real TE.real n s = some (plB n s) := by
  unfold I_PlaceOf plB
  rw [sc_i ht]
  cases hb : scB n s with
  | false => simp
  | true =>
    have hk := sc_ok hb
    simp only [cl_some, br_t, R_eq, br_dec, R_nat, if_true]
    by_cases k3 : s.Kind = 3
    · obtain ⟨_, _, r1, r2, _⟩ := sc_trip ht hk (.inl k3)
      rw [if_pos k3, if_pos k3, gd_true r1, gt_some (lg_get r1 r2)]
    · rw [if_neg k3, if_neg k3]
      by_cases k2 : s.Kind = 2
      · obtain ⟨_, _, r1, r2, _⟩ := sc_trip ht hk (.inr k2)
        rw [if_pos k2, if_pos k2, gd_true r1, gt_some (lg_get r1 r2)]
      · rw [if_neg k2, if_neg k2]
theorem bh_i {n : Network} (ht : n.tot ≤ 1048576) (s : Scan) : I_SpotBehind G.real TE.real n s = some (bhB n s) := by
  unfold I_SpotBehind bhB
  rw [sc_i ht, pl_i ht]
  cases hb : scB n s with
  | false => simp
  | true =>
    have hk := sc_ok hb
    simp only [cl_some, br_t, R_eq, br_dec, R_nat, if_true]
    by_cases k3 : s.Kind = 3
    · obtain ⟨hn, _, r1, r2, r3, r4⟩ := sc_trip ht hk (.inl k3)
      rw [if_pos k3, if_pos k3, gd_true r1, gt_some (lg_get r1 r2), end_i hn r1 r2 r3 r4]; rfl
    · rw [if_neg k3, if_neg k3]
theorem bf_i {n : Network} (ht : n.tot ≤ 1048576) (s : Scan) : I_SpotBefore G.real TE.real n s = some (bfB n s) := by
  unfold I_SpotBefore bfB
  rw [sc_i ht]
  cases hb : scB n s with
  | false => simp
  | true =>
    have hk := sc_ok hb
    simp only [cl_some, br_t, R_eq, br_dec, R_nat, if_true]
    by_cases k3 : s.Kind = 3
    · obtain ⟨hn, _, r1, r2, r3, r4⟩ := sc_trip ht hk (.inl k3)
      rw [if_pos k3, if_pos (.inl k3), gd_true r1, gt_some (lg_get r1 r2), start_i hn r1 r2 r3 r4]; rfl
    · rw [if_neg k3]
      by_cases k2 : s.Kind = 2
      · obtain ⟨hn, _, r1, r2, r3, r4⟩ := sc_trip ht hk (.inr k2)
        rw [if_pos k2, if_pos (.inr k2), gd_true r1, gt_some (lg_get r1 r2), start_i hn r1 r2 r3 r4]; rfl
      · rw [if_neg k2, if_neg (fun h => h.elim k3 k2)]
theorem pl_s {n : Network} (ht : n.tot ≤ 1048576) (s : Scan) : S_PlaceOf G.real TE.real n s = some (plB n s) := by
  unfold S_PlaceOf plB
  rw [sc_s ht]
  cases hb : scB n s with
  | false => simp
  | true =>
    have hk := sc_ok hb
    simp only [cl_some, br_t, R_eq, br_dec, R_nat, if_true]
    by_cases k3 : s.Kind = 3
    · obtain ⟨_, _, r1, r2, _⟩ := sc_trip ht hk (.inl k3)
      rw [if_pos k3, if_pos k3, gd_true r1, gt_some (lg_get r1 r2)]
    · rw [if_neg k3, if_neg k3]
      by_cases k2 : s.Kind = 2
      · obtain ⟨_, _, r1, r2, _⟩ := sc_trip ht hk (.inr k2)
        rw [if_pos k2, if_pos k2, gd_true r1, gt_some (lg_get r1 r2)]
      · rw [if_neg k2, if_neg k2]
theorem bh_s {n : Network} (ht : n.tot ≤ 1048576) (s : Scan) : S_SpotBehind G.real TE.real n s = some (bhB n s) := by
  unfold S_SpotBehind bhB
  rw [sc_s ht, pl_s ht]
  cases hb : scB n s with
  | false => simp
  | true =>
    have hk := sc_ok hb
    simp only [cl_some, br_t, R_eq, br_dec, R_nat, if_true]
    by_cases k3 : s.Kind = 3
    · obtain ⟨hn, _, r1, r2, r3, r4⟩ := sc_trip ht hk (.inl k3)
      rw [if_pos k3, if_pos k3, gd_true r1, gt_some (lg_get r1 r2), end_s hn r1 r2 r3 r4]; rfl
    · rw [if_neg k3, if_neg k3]
theorem bf_s {n : Network} (ht : n.tot ≤ 1048576) (s : Scan) : S_SpotBefore G.real TE.real n s = some (bfB n s) := by
  unfold S_SpotBefore bfB
  rw [sc_s ht]
  cases hb : scB n s with
  | false => simp
  | true =>
    have hk := sc_ok hb
    simp only [cl_some, br_t, R_eq, br_dec, R_nat, if_true]
    by_cases k3 : s.Kind = 3
    · obtain ⟨hn, _, r1, r2, r3, r4⟩ := sc_trip ht hk (.inl k3)
      rw [if_pos k3, if_pos (.inl k3), gd_true r1, gt_some (lg_get r1 r2), start_s hn r1 r2 r3 r4]; rfl
    · rw [if_neg k3]
      by_cases k2 : s.Kind = 2
      · obtain ⟨hn, _, r1, r2, r3, r4⟩ := sc_trip ht hk (.inr k2)
        rw [if_pos k2, if_pos (.inr k2), gd_true r1, gt_some (lg_get r1 r2), start_s hn r1 r2 r3 r4]; rfl
      · rw [if_neg k2, if_neg (fun h => h.elim k3 k2)]
end Go.Vs
