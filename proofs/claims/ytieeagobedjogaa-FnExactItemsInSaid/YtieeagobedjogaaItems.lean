/- The items of a centre, in order. -/
import Derived.Test.YtieeagobedjogaaPlain
import Derived.Test.YtieeagobedjogaaLab
import Derived.Test.YtieeagobedjogaaLac
set_option linter.unusedVariables false
set_option linter.unusedSimpArgs false
set_option linter.unusedSectionVars false
namespace Go.Vs
open Go.IntWalk
theorem srt_perm (l : List Int) : (srt l).Perm l := List.mergeSort_perm l _
theorem srt_sorted (l : List Int) : (srt l).Pairwise fun a b => a ≤ b := by
  have := List.pairwise_mergeSort (le := fun (a b : Int) => decide (a ≤ b)) (fun a b c h1 h2 => by simp at *; omega) (fun a b => by simp; omega) l
  exact this.imp fun h => by simpa using h
theorem srt_unique {l l' : List Int} (h : l.Perm l') (hs : l.Pairwise fun a b => a ≤ b) : l = srt l' :=
  List.Perm.eq_of_pairwise (le := fun (a b : Int) => a ≤ b) (fun a b _ _ h1 h2 => by omega) hs (srt_sorted l') (h.trans (srt_perm l').symm)
theorem srt_len (l : List Int) : (srt l).length = l.length := List.length_mergeSort _
theorem iItems_l1 (a : List Item) (ha : a.length ≤ 1048576) : ∀ (n k : Nat) (w : List Int), k + n = a.length → w.length + n ≤ 1048576 → I_ItemsIn_l1 G.real TE.real a n (k : Int) w = some (w ++ (a.drop k).map (·.Id))
  | 0, k, w, hk, _ => by rw [I_ItemsIn_l1, List.drop_of_length_le (by omega)]; simp
  | n + 1, k, w, hk, hw => by
    have hx : a[k]? = some a[k] := List.getElem?_eq_getElem (by omega)
    rw [I_ItemsIn_l1]
    simp only [R_nat, Int.toNat_natCast, lP_eq, R_add]
    rw [gt_some hx, gd_true (by simp only [List.length_cons, List.length_nil]; omega), w64 (by omega) (by omega), show (k : Int) + 1 = ((k + 1 : Nat) : Int) from by omega, iItems_l1 a ha n (k + 1) _ (by omega) (by simp; omega), List.drop_eq_getElem_cons (show k < a.length by omega), List.map_cons, List.append_assoc]
    rfl
open Classical in
theorem iItems_r (c : Centre) (h : c.tot ≤ 1048576) : I_ItemsIn G.real TE.real c = some (if IsC c then srt ((itemsOf c).map (·.Id)) else []) := by
  unfold I_ItemsIn
  rw [iCentre_r c h, iEvery_r c h]
  simp only [cl_some, lP_eq, br_dec, R_int, dlenx_Item]
  by_cases hc : IsC c
  · have hl := items_len c
    rw [if_pos hc, if_pos hc, gd_true (by omega), cnt0, show (0 : Int) = ((0 : Nat) : Int) from rfl, iItems_l1 (itemsOf c) (by omega) (itemsOf c).length 0 [] (by omega) (by simp; omega), cl_some]
    simp only [List.nil_append, List.drop_zero]
    unfold X_sort_Ints
    rw [gd_true (by simp; omega), cl_some, gd_true (srt_len _)]
  · rw [if_neg hc, if_neg hc]
/-- where a number goes -/
def cut (a : Int) : List Int → Nat
  | [] => 0
  | x :: l => if x < a then cut a l + 1 else 0
theorem cut_le (a : Int) : ∀ l : List Int, cut a l ≤ l.length
  | [] => Nat.le_refl _
  | x :: l => by
    rw [cut]
    split
    · have := cut_le a l; simp; omega
    · omega
def ins (l : List Int) (a : Int) : List Int := l.take (cut a l) ++ a :: l.drop (cut a l)
theorem ins_perm (l : List Int) (a : Int) : (ins l a).Perm (a :: l) := by
  unfold ins
  have := (List.perm_middle (a := a) (l₁ := l.take (cut a l)) (l₂ := l.drop (cut a l)))
  rwa [List.take_append_drop] at this
theorem ins_sorted (a : Int) : ∀ l : List Int, (l.Pairwise fun x y => x ≤ y) → (ins l a).Pairwise fun x y => x ≤ y
  | [], _ => by simp [ins, cut]
  | x :: l, h => by
    have ih := ins_sorted a l (List.pairwise_cons.1 h).2
    have hx := (List.pairwise_cons.1 h).1
    unfold ins at ih ⊢
    rw [cut]
    split
    · rename_i hlt
      rw [List.take_succ_cons, List.drop_succ_cons, List.cons_append, List.pairwise_cons]
      refine ⟨fun y hy => ?_, ih⟩
      have hp : y ∈ a :: l := (ins_perm l a).mem_iff.1 hy
      rcases List.mem_cons.1 hp with rfl | hy
      · omega
      · exact hx y hy
    · rename_i hge
      rw [List.take_zero, List.drop_zero, List.nil_append, List.pairwise_cons]
      refine ⟨fun y hy => ?_, h⟩
      rcases List.mem_cons.1 hy with rfl | hy
      · omega
      · have := hx y hy; omega
theorem sItems_l2 (a : List Item) (k : Nat) (x : Item) (hx : a[k]? = some x) (w : List Int) (hw : w.length ≤ 1048576) : ∀ (n j : Nat), j + n = w.length → S_ItemsIn_l2 G.real TE.real (k : Int) w a n (j : Int) = some (((j + cut x.Id (w.drop j) : Nat)) : Int)
  | 0, j, hj => by rw [S_ItemsIn_l2, List.drop_of_length_le (by omega)]; simp [cut]
  | n + 1, j, hj => by
    have hy : w[j]? = some w[j] := List.getElem?_eq_getElem (by omega)
    rw [S_ItemsIn_l2]
    simp only [R_nat, Int.toNat_natCast, R_add, R_lt, br_dec]
    rw [gt_some hy, gt_some hx, w64 (by omega) (by omega), show (j : Int) + 1 = ((j + 1 : Nat) : Int) from by omega, sItems_l2 a k x hx w hw n (j + 1) (by omega), List.drop_eq_getElem_cons (show j < w.length by omega), cut]
    split
    · congr 2; omega
    · simp
theorem sItems_l1 (a : List Item) (ha : a.length ≤ 1048576) : ∀ (n k : Nat) (w : List Int), k + n = a.length → w.length + n ≤ 1048576 → S_ItemsIn_l1 G.real TE.real a n (k : Int) w = some (((a.drop k).map (·.Id)).foldl ins w)
  | 0, k, w, hk, _ => by rw [S_ItemsIn_l1, List.drop_of_length_le (by omega)]; rfl
  | n + 1, k, w, hk, hw => by
    have hx : a[k]? = some a[k] := List.getElem?_eq_getElem (by omega)
    have hc := cut_le a[k].Id w
    rw [S_ItemsIn_l1]
    have e2 := sItems_l2 a k a[k] hx w (by omega) w.length 0 (by omega)
    simp only [R_nat, R_int, dlenx_I64, Int.toNat_natCast, lP_eq, R_add, R_nsub]
    rw [gd_true (by omega), cnt0, show (0 : Int) = ((0 : Nat) : Int) from rfl, e2, cl_some]
    simp only [Int.toNat_natCast, Nat.zero_add, Nat.sub_zero, List.drop_zero]
    rw [gd_true (by omega), gd_true (by omega), l1Ints_r _ (by simp; omega), cl_some, gt_some hx, gd_true (by simp only [List.length_cons, List.length_nil, List.length_take]; omega), gd_true (by omega), gd_true (by omega), gd_true (by simp only [List.length_append, List.length_cons, List.length_nil, List.length_take, List.length_drop]; omega)]
    rw [w64 (by omega) (by omega), show (k : Int) + 1 = ((k + 1 : Nat) : Int) from by omega]
    have hi : List.take (cut a[k].Id w) w ++ [a[k].Id] ++ List.take (w.length - cut a[k].Id w) (List.drop (cut a[k].Id w) w) = ins w a[k].Id := by
      rw [List.take_of_length_le (l := List.drop (cut a[k].Id w) w) (by simp)]
      simp [ins]
    rw [hi, sItems_l1 a ha n (k + 1) _ (by omega) (by have := (ins_perm w a[k].Id).length_eq; simp at this; omega), List.drop_eq_getElem_cons (show k < a.length by omega)]
    rfl
theorem fold_ins : ∀ (l w : List Int), (w.Pairwise fun x y => x ≤ y) → ((l.foldl ins w).Pairwise fun x y => x ≤ y) ∧ (l.foldl ins w).Perm (w ++ l)
  | [], w, h => ⟨h, by simp⟩
  | x :: l, w, h => by
    obtain ⟨h1, h2⟩ := fold_ins l (ins w x) (ins_sorted x w h)
    refine ⟨h1, h2.trans ?_⟩
    refine ((ins_perm w x).append_right l).trans ?_
    exact (List.perm_middle (a := x) (l₁ := w) (l₂ := l)).symm
open Classical in
theorem sItems_r (c : Centre) (h : c.tot ≤ 1048576) : S_ItemsIn G.real TE.real c = some (if IsC c then srt ((itemsOf c).map (·.Id)) else []) := by
  unfold S_ItemsIn
  rw [sCentre_r c h, sAll_r c h]
  simp only [cl_some, lP_eq, br_dec, R_int, dlenx_Item]
  by_cases hc : IsC c
  · have hl := items_len c
    obtain ⟨f1, f2⟩ := fold_ins ((itemsOf c).map (·.Id)) [] List.Pairwise.nil
    rw [if_pos hc, if_pos hc, gd_true (by omega), cnt0, show (0 : Int) = ((0 : Nat) : Int) from rfl, sItems_l1 (itemsOf c) (by omega) (itemsOf c).length 0 [] (by omega) (by simp; omega), cl_some, List.drop_zero, srt_unique (by simpa using f2) f1]
  · rw [if_neg hc, if_neg hc]
end Go.Vs
