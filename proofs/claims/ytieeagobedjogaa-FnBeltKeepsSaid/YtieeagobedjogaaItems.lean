/- The items of a centre, in order. -/
import Derived.Test.YtieeagobedjogaaPlain
import Derived.Test.YtieeagobedjogaaLac
set_option linter.unusedVariables false
set_option linter.unusedSimpArgs false
set_option linter.unusedSectionVars false
namespace Go.Vs
open Go.IntWalk
theorem srt_perm (l : List Int) : (srt l).Perm l := List.mergeSort_perm l _
theorem srt_sorted (l : List Int) : (srt l).Pairwise fun a b => a ≤ b := by
  have := List.pairwise_mergeSort (le := fun (a b : Int) => decide (a ≤ b)) (fun a b c h1 h2 => by simp at *; omega) (fun a b => by simp; omega) l
  exact this.imp fun h => by simpa using h
theorem srt_unique {l l' : List Int} (h : l.Perm l') (hs : l.Pairwise fun a b => a ≤ b) : l = srt l' :=
  List.Perm.eq_of_pairwise (le := fun (a b : Int) => a ≤ b) (fun a b _ _ h1 h2 => by omega) hs (srt_sorted l') (h.trans (srt_perm l').symm)
theorem srt_len (l : List Int) : (srt l).length = l.length := List.length_mergeSort _
theorem iItems_l1 (a : List Item) (ha : a.length ≤ 1048576) : ∀ (n k : Nat) (w : List Int), k + n = a.length → w.length + n ≤ 1048576 → I_ItemsIn_l1 G.real TE.real a n (k : Int) w = some (w ++ (a.drop k).map (·.Id))
  | 0, k, w, hk, _ => by rw [I_ItemsIn_l1, List.drop_of_length_le (by omega)]; simp
  | n + 1, k, w, hk, hw => by
    have hx : a[k]? = some a[k] := List.getElem?_eq_getElem (by omega)
    rw [I_ItemsIn_l1]
    simp only [R_nat, Int.toNat_natCast, lP_eq, R_add]
    rw [gt_some hx, gd_true (by simp only [List.length_cons, List.length_nil]; omega), w64 (by omega) (by omega), show (k : Int) + 1 = ((k + 1 : Nat) : Int) from by omega, iItems_l1 a ha n (k + 1) _ (by omega) (by simp; omega), List.drop_eq_getElem_cons (show k < a.length by omega), List.map_cons, List.append_assoc]
    rfl
open Classical in
theorem iItems_r (c : Centre) (h : c.tot ≤ 1048576) : I_ItemsIn G.real TE.real c = some (if IsC c then srt ((itemsOf c).map (·.Id)) else []) := by
  unfold I_ItemsIn
  rw [iCentre_r c h, iEvery_r c h]
  simp only [cl_some, lP_eq, br_dec, R_int, dlenx_Item]
  by_cases hc : IsC c
  · have hl := items_len c
    rw [if_pos hc, if_pos hc, gd_true (by omega), cnt0, show (0 : Int) = ((0 : Nat) : Int) from rfl, iItems_l1 (itemsOf c) (by omega) (itemsOf c).length 0 [] (by omega) (by simp; omega), cl_some]
    simp only [List.nil_append, List.drop_zero]
    unfold X_sort_Ints
    rw [gd_true (by simp; omega), cl_some, gd_true (srt_len _)]
  · rw [if_neg hc, if_neg hc]
end Go.Vs
