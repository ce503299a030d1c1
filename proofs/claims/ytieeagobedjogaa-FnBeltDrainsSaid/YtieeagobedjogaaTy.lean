/- Part of the proofs of this seat's laws: Ty. No condition. -/
import Derived.Test.YtieeagobedjogaaVf
set_option linter.unusedVariables false
set_option linter.unusedSimpArgs false
set_option linter.unusedSectionVars false
namespace Go.Vs
open Go.IntWalk
set_option linter.unusedVariables false
set_option linter.unusedSimpArgs false
set_option linter.unusedSectionVars false
structure Item where
  Id : Int
  Dest : Int
structure Inlet where
  Cell : Int
  Wait : List Item
structure Chute where
  Cell : Int
  Room : Int
  Held : List Item
structure Centre where
  Belt : List Item
  Chutes : List Chute
  Inlets : List Inlet
  Plan : List Int
  Now : Int
structure Cur where
  b : List Int
  i : Int
  h : Int
def rItem (l : List Item) : List (List R) := l.map fun x => [.v (.int .i64 x.Id), .v (.int .i64 x.Dest)]
def dItem (l : List Item) : List (List D) := l.map fun x => [.r (.v (.int .i64 x.Id)), .r (.v (.int .i64 x.Dest))]
def rChute (l : List Chute) : List (List R) := l.map fun x => [.v (.int .i64 x.Cell), .v (.int .i64 x.Room), .s 2 (rItem x.Held)]
def dChute (l : List Chute) : List (List D) := l.map fun x => [.r (.v (.int .i64 x.Cell)), .r (.v (.int .i64 x.Room)), .o 2 (dItem x.Held)]
def rInlet (l : List Inlet) : List (List R) := l.map fun x => [.v (.int .i64 x.Cell), .s 2 (rItem x.Wait)]
def dInlet (l : List Inlet) : List (List D) := l.map fun x => [.r (.v (.int .i64 x.Cell)), .o 2 (dItem x.Wait)]
def rI64 (l : List Int) : List (List R) := l.map fun x => [.v (.int .i64 x)]
def dI64 (l : List Int) : List (List D) := l.map fun x => [.r (.v (.int .i64 x))]
def rU8 (l : List Int) : List (List R) := l.map fun x => [.v (.int .u8 x)]
def dU8 (l : List Int) : List (List D) := l.map fun x => [.r (.v (.int .u8 x))]
def dInletF (l : List Inlet) : List (List D) := l.map fun x => [.r (.v (.int .i64 x.Cell)), .r (.s 2 (rItem x.Wait))]
structure TE where
  r_Item : List Item → List (List R)
  d_Item : List Item → List (List D)
  r_Chute : List Chute → List (List R)
  d_Chute : List Chute → List (List D)
  r_Inlet : List Inlet → List (List R)
  d_Inlet : List Inlet → List (List D)
  r_I64 : List Int → List (List R)
  d_I64 : List Int → List (List D)
  r_U8 : List Int → List (List R)
  d_U8 : List Int → List (List D)
  d_InletF : List Inlet → List (List D)
def TE.real : TE := ⟨rItem, dItem, rChute, dChute, rInlet, dInlet, rI64, dI64, rU8, dU8, dInletF⟩
def Item.rs (t : TE) (x : Item) : List R := [.v (.int .i64 x.Id), .v (.int .i64 x.Dest)]
def Item.ds (t : TE) (x : Item) : List D := [.r (.v (.int .i64 x.Id)), .r (.v (.int .i64 x.Dest))]
def Inlet.rs (t : TE) (x : Inlet) : List R := [.v (.int .i64 x.Cell), .s 2 (t.r_Item x.Wait)]
def Inlet.ds (t : TE) (x : Inlet) : List D := [.r (.v (.int .i64 x.Cell)), .o 2 (t.d_Item x.Wait)]
def Chute.rs (t : TE) (x : Chute) : List R := [.v (.int .i64 x.Cell), .v (.int .i64 x.Room), .s 2 (t.r_Item x.Held)]
def Chute.ds (t : TE) (x : Chute) : List D := [.r (.v (.int .i64 x.Cell)), .r (.v (.int .i64 x.Room)), .o 2 (t.d_Item x.Held)]
def Centre.rs (t : TE) (x : Centre) : List R := [.s 2 (t.r_Item x.Belt), .s 3 (t.r_Chute x.Chutes), .s 2 (t.r_Inlet x.Inlets), .s 1 (t.r_I64 x.Plan), .v (.int .i64 x.Now)]
def Centre.ds (t : TE) (x : Centre) : List D := [.o 2 (t.d_Item x.Belt), .o 3 (t.d_Chute x.Chutes), .o 2 (t.d_Inlet x.Inlets), .o 1 (t.d_I64 x.Plan), .r (.v (.int .i64 x.Now))]
def Cur.rs (t : TE) (x : Cur) : List R := [.s 1 (t.r_U8 x.b), .v (.int .i64 x.i), .v (.int .i64 x.h)]
def Cur.ds (t : TE) (x : Cur) : List D := [.r (.s 1 (t.r_U8 x.b)), .r (.v (.int .i64 x.i)), .r (.v (.int .i64 x.h))]
def I64.rs (t : TE) (x : Int) : List R := [.v (.int .i64 x)]
def I64.ds (t : TE) (x : Int) : List D := [.r (.v (.int .i64 x))]
def U8.rs (t : TE) (x : Int) : List R := [.v (.int .u8 x)]
def U8.ds (t : TE) (x : Int) : List D := [.r (.v (.int .u8 x))]
def InletF.ds (t : TE) (x : Inlet) : List D := [.r (.v (.int .i64 x.Cell)), .r (.s 2 (t.r_Item x.Wait))]
def CentreF.ds (t : TE) (x : Centre) : List D := [.o 2 (t.d_Item x.Belt), .o 3 (t.d_Chute x.Chutes), .o 2 (t.d_InletF x.Inlets), .o 1 (t.d_I64 x.Plan), .r (.v (.int .i64 x.Now))]
theorem map_get {α β : Type} (f : α → β) {l : List α} {i : Nat} {x : α} (h : l[i]? = some x) : (l.map f)[i]? = some (f x) := by rw [List.getElem?_map, h]; rfl
theorem toRdss_of {α : Type} {f : α → List D} {q : α → List R} (h : ∀ x, toRds (f x) = q x) (l : List α) : toRdss (l.map f) = l.map q := by
  induction l with
  | nil => rfl
  | cons x l ih => simp only [List.map_cons, toRdss, h, ih]
theorem fresh_of {α : Type} {f : α → List D} (h : ∀ x, freshDs (f x) = true) (l : List α) : freshDss (l.map f) = true := by
  induction l with
  | nil => rfl
  | cons x l ih => simp only [List.map_cons, freshDss, h, ih, Bool.and_self]
theorem flat_of {α : Type} {f : α → List D} (h : ∀ x, flatD (f x) = true) (l : List α) : flatDs (l.map f) = true := by
  induction l with
  | nil => rfl
  | cons x l ih => simp only [List.map_cons, flatDs, h, ih, Bool.and_self]
theorem flx_Item (x : Item) : flatD (Item.ds TE.real x) = true := rfl
theorem rr_Item (l : List Item) : TE.real.r_Item l = l.map (Item.rs TE.real) := rfl
theorem dd_Item (l : List Item) : TE.real.d_Item l = l.map (Item.ds TE.real) := rfl
theorem rdx_Item (x : Item) : toRds (Item.ds TE.real x) = Item.rs TE.real x := by simp [Item.ds, Item.rs, toRds, toRd]
theorem frx_Item (x : Item) : freshDs (Item.ds TE.real x) = true := by simp [Item.ds, freshDs, freshD]
theorem rdr_Item (l : List Item) : toRdss (TE.real.d_Item l) = TE.real.r_Item l := by rw [dd_Item, rr_Item]; exact toRdss_of rdx_Item l
theorem frr_Item (l : List Item) : freshDss (TE.real.d_Item l) = true := by rw [dd_Item]; exact fresh_of frx_Item l
section
variable {g : G} {t : TE} (hg : g = G.real) (ht : t = TE.real)
include ht
theorem r_len_Item (l : List Item) : (t.r_Item l).length = l.length := by subst ht; rw [rr_Item]; simp
theorem d_len_Item (l : List Item) : (t.d_Item l).length = l.length := by subst ht; rw [dd_Item]; simp
theorem d_nil_Item : t.d_Item [] = [] := by subst ht; rfl
theorem r_nil_Item : t.r_Item [] = [] := by subst ht; rfl
theorem d_cons_Item (x : Item) (l : List Item) : t.d_Item (x :: l) = Item.ds t x :: t.d_Item l := by subst ht; rfl
theorem dsetl_Item (l : List Item) (i : Nat) (x : Item) : (t.d_Item (l.set i x)).length = (t.d_Item l).length := by subst ht; rw [dd_Item, dd_Item]; simp
theorem lenp_Item {l l2 : List Item} {n : Nat} (h : n = (t.d_Item l).length) (h2 : l2.length = l.length) : n = (t.d_Item l2).length := by rw [h, d_len_Item ht, d_len_Item ht, h2]
theorem fresh_Item (l : List Item) : freshDss (t.d_Item l) = true := by subst ht; exact frr_Item l
theorem lend_Item {l : List Item} {n : Nat} (h : n = (t.d_Item l).length) : 0 + n ≤ (t.d_Item l).length := by omega
theorem lendp_Item {l : List Item} {lo n : Nat} (h : lo + n ≤ l.length) : lo + n ≤ (t.d_Item l).length := by rw [d_len_Item ht]; exact h
include hg
theorem r_get_Item {l : List Item} {i : Nat} {x : Item} (h : l[i]? = some x) : (t.r_Item l)[i]? = some (Item.rs t x) := by subst ht; rw [rr_Item]; exact map_get _ h
theorem d_get_Item {l : List Item} {i : Nat} {x : Item} (h : l[i]? = some x) : (t.d_Item l)[i]? = some (Item.ds t x) := by subst ht; rw [dd_Item]; exact map_get _ h
theorem r_getL_Item {l : List Item} {i : Int} {k : Nat} {x : Item} (hi : i = ((k : Nat) : Int)) (h : l[k]? = some x) : (t.r_Item l)[g.nat i]? = some (Item.rs t x) := by
  subst hg; subst hi; exact r_get_Item rfl ht (by simpa [G.real] using h)
theorem lit_Item (l : List Item) : List.map (Item.ds t) l = t.d_Item l := by subst ht; rfl
theorem litn_Item (l : List Item) : l.length = g.dlen (t.d_Item l) := by subst hg; subst ht; rw [dd_Item]; simp [G.real]
theorem dlen_Item (l : List Item) : g.dlen (t.d_Item l) = (t.d_Item l).length := by subst hg; rfl
theorem dlen_nil_Item : g.dlen (t.d_Item []) = 0 := by subst hg; subst ht; rfl
theorem drep_Item (j : Int) (z : Item) : g.drep j (Item.ds t z) = t.d_Item (List.replicate (g.nat j) z) := by subst hg; subst ht; rw [dd_Item]; simp [G.real]
theorem drepn_Item (j : Int) (z : Item) : g.nat j = g.dlen (t.d_Item (List.replicate (g.nat j) z)) := by subst hg; subst ht; rw [dd_Item]; simp [G.real]
theorem dset_Item (l : List Item) (i : Nat) (x : Item) : g.dset (t.d_Item l) i (Item.ds t x) = t.d_Item (l.set i x) := by subst hg; subst ht; rw [dd_Item, dd_Item]; simp [G.real, List.map_set]
theorem dsets_Item {l : List Item} {i : Nat} {x : Item} (h : l[i]? = some x) : g.dset (t.d_Item l) i (Item.ds t x) = t.d_Item l := by
  rw [dset_Item hg ht]
  congr 1
  apply List.ext_getElem?
  intro j
  rw [List.getElem?_set]
  split
  · rename_i e
    subst e
    rw [h]
    split
    · rfl
    · rename_i hn
      rw [List.getElem?_eq_none (by omega)] at h
      cases h
  · rfl
theorem app_Item {l m : List Item} {n : Nat} {news : List (List D)} (h1 : n = (t.d_Item l).length) (h2 : news = t.d_Item m) : g.dapp (t.d_Item l) n news = t.d_Item (l ++ m) := by
  subst h1; subst h2; subst hg; subst ht; simp only [dd_Item, G.real, List.map_append, List.take_length]
theorem appl_Item {l m : List Item} {n : Nat} {news : List (List D)} (h1 : n = (t.d_Item l).length) (h2 : news = t.d_Item m) : g.nadd n (g.dlen news) = g.dlen (t.d_Item (l ++ m)) := by
  subst h1; subst h2; subst hg; subst ht; simp only [dd_Item, G.real, List.map_append, List.length_append]
theorem app_ok_Item {l m : List Item} {n b : Nat} {news : List (List D)} (h1 : n = (t.d_Item l).length) (h2 : news = t.d_Item m) (h : (l.length + m.length) * b ≤ 70368744177664) (hb : 0 < b := by decide) : 0 = 0 ∧ n ≤ (t.d_Item l).length ∧ n + news.length ≤ maxLen ∧ (n + news.length) * b ≤ 140737488355328 :=
  app_okG h1 (d_len_Item ht l) (h2 ▸ d_len_Item ht m) hb h
theorem appn_ok_Item {m : List Item} {b : Nat} {news : List (List D)} (h2 : news = t.d_Item m) (h : m.length * b ≤ 70368744177664) (hb : 0 < b := by decide) : news.length ≤ maxLen ∧ news.length * b ≤ 140737488355328 :=
  appn_okG (h2 ▸ d_len_Item ht m) hb h
theorem dsubw_Item {m : List Item} {n : Nat} (h : n = (t.d_Item m).length) : g.dsub (t.d_Item m) 0 n = t.d_Item m := by subst h; subst hg; simp [G.real]
theorem rda_Item (l : List Item) : g.rda (t.d_Item l) = t.r_Item l := by subst hg; subst ht; exact rdr_Item l
theorem litr_Item (l : List Item) : g.rda (List.map (Item.ds t) l) = t.r_Item l := by rw [lit_Item hg ht]; exact rda_Item hg ht l
theorem rd_Item (l : List Item) (lo n : Nat) : g.rd (t.d_Item l) lo n = t.r_Item (List.take n (List.drop lo l)) := by
  subst hg; subst ht
  rw [← rdr_Item, dd_Item, dd_Item]
  simp [G.real]
theorem rdw_Item {l : List Item} {n : Nat} (h : n = (t.d_Item l).length) : g.rd (t.d_Item l) 0 n = t.r_Item l := by rw [rd_Item hg ht, h, d_len_Item ht]; simp
theorem rsub_Item (l : List Item) (a b : Int) : g.rsub (t.r_Item l) a b = t.r_Item (List.drop (g.nat a) (List.take (g.nat b) l)) := by subst hg; subst ht; rw [rr_Item, rr_Item]; simp [G.real]
theorem ltL_true_Item {l : List Item} {i : Int} {k : Nat} (hi : i = ((k : Nat) : Int)) (hc : k < l.length) : g.lt i (g.llen (t.r_Item l)) = true := by subst hg; simp [G.real, r_len_Item ht]; omega
theorem ltL_false_Item {l : List Item} {i : Int} {k : Nat} (hi : i = ((k : Nat) : Int)) (hc : ¬ k < l.length) : g.lt i (g.llen (t.r_Item l)) = false := by subst hg; simp [G.real, r_len_Item ht]; omega
theorem stepL_Item {l : List Item} {i : Int} {k : Nat} (hi : i = ((k : Nat) : Int)) (hc : k < l.length) (hm : (t.r_Item l).length ≤ maxLen) : g.wrap .i64 (g.add i 1) = ((k + 1 : Nat) : Int) := by
  subst hg; rw [r_len_Item ht] at hm; unfold maxLen at hm; simp only [G.real]; rw [i64_in] <;> omega
@[simp] theorem llen_Item (l : List Item) : G.real.llen (TE.real.r_Item l) = (l.length : Int) := by rw [rr_Item]; simp [G.real]
@[simp] theorem dlenx_Item (l : List Item) : G.real.dlen (TE.real.d_Item l) = l.length := by rw [dd_Item]; simp [G.real]
@[simp] theorem rlenx_Item (l : List Item) : (TE.real.r_Item l).length = l.length := by rw [rr_Item]; simp
theorem dsub_Item (m : List Item) (lo n : Nat) : g.dsub (t.d_Item m) lo n = t.d_Item (List.take n (List.drop lo m)) := by subst hg; subst ht; rw [dd_Item, dd_Item]; simp [G.real]
theorem subp_ok_Item {m : List Item} {lo n : Nat} (h : lo + n ≤ m.length) : lo + n ≤ (t.d_Item m).length ∧ flatDs (((t.d_Item m).drop lo).take n) = true := by
  subst ht; refine ⟨by rw [d_len_Item rfl]; exact h, ?_⟩
  rw [dd_Item, ← List.map_drop, ← List.map_take]; exact flat_of flx_Item _
theorem up_Item (m : List Item) : g.up (t.r_Item m) = t.d_Item m := by subst hg; subst ht; rw [rr_Item, dd_Item]; simp [G.real, Item.rs, Item.ds]
theorem subw_ok_Item {m : List Item} {n : Nat} (h : n = (t.d_Item m).length) : 0 + n ≤ (t.d_Item m).length ∧ flatDs (((t.d_Item m).drop 0).take n) = true := by
  subst h; subst ht; refine ⟨by omega, ?_⟩
  simp only [List.drop_zero, List.take_length, dd_Item]; exact flat_of flx_Item m
end
theorem rr_Chute (l : List Chute) : TE.real.r_Chute l = l.map (Chute.rs TE.real) := rfl
theorem dd_Chute (l : List Chute) : TE.real.d_Chute l = l.map (Chute.ds TE.real) := rfl
theorem rdx_Chute (x : Chute) : toRds (Chute.ds TE.real x) = Chute.rs TE.real x := by simp [Chute.ds, Chute.rs, toRds, toRd, rdr_Item, frr_Item]
theorem frx_Chute (x : Chute) : freshDs (Chute.ds TE.real x) = true := by simp [Chute.ds, freshDs, freshD, rdr_Item, frr_Item]
theorem rdr_Chute (l : List Chute) : toRdss (TE.real.d_Chute l) = TE.real.r_Chute l := by rw [dd_Chute, rr_Chute]; exact toRdss_of rdx_Chute l
theorem frr_Chute (l : List Chute) : freshDss (TE.real.d_Chute l) = true := by rw [dd_Chute]; exact fresh_of frx_Chute l
section
variable {g : G} {t : TE} (hg : g = G.real) (ht : t = TE.real)
include ht
theorem r_len_Chute (l : List Chute) : (t.r_Chute l).length = l.length := by subst ht; rw [rr_Chute]; simp
theorem d_len_Chute (l : List Chute) : (t.d_Chute l).length = l.length := by subst ht; rw [dd_Chute]; simp
theorem d_nil_Chute : t.d_Chute [] = [] := by subst ht; rfl
theorem r_nil_Chute : t.r_Chute [] = [] := by subst ht; rfl
theorem d_cons_Chute (x : Chute) (l : List Chute) : t.d_Chute (x :: l) = Chute.ds t x :: t.d_Chute l := by subst ht; rfl
theorem dsetl_Chute (l : List Chute) (i : Nat) (x : Chute) : (t.d_Chute (l.set i x)).length = (t.d_Chute l).length := by subst ht; rw [dd_Chute, dd_Chute]; simp
theorem lenp_Chute {l l2 : List Chute} {n : Nat} (h : n = (t.d_Chute l).length) (h2 : l2.length = l.length) : n = (t.d_Chute l2).length := by rw [h, d_len_Chute ht, d_len_Chute ht, h2]
theorem fresh_Chute (l : List Chute) : freshDss (t.d_Chute l) = true := by subst ht; exact frr_Chute l
theorem lend_Chute {l : List Chute} {n : Nat} (h : n = (t.d_Chute l).length) : 0 + n ≤ (t.d_Chute l).length := by omega
theorem lendp_Chute {l : List Chute} {lo n : Nat} (h : lo + n ≤ l.length) : lo + n ≤ (t.d_Chute l).length := by rw [d_len_Chute ht]; exact h
include hg
theorem r_get_Chute {l : List Chute} {i : Nat} {x : Chute} (h : l[i]? = some x) : (t.r_Chute l)[i]? = some (Chute.rs t x) := by subst ht; rw [rr_Chute]; exact map_get _ h
theorem d_get_Chute {l : List Chute} {i : Nat} {x : Chute} (h : l[i]? = some x) : (t.d_Chute l)[i]? = some (Chute.ds t x) := by subst ht; rw [dd_Chute]; exact map_get _ h
theorem r_getL_Chute {l : List Chute} {i : Int} {k : Nat} {x : Chute} (hi : i = ((k : Nat) : Int)) (h : l[k]? = some x) : (t.r_Chute l)[g.nat i]? = some (Chute.rs t x) := by
  subst hg; subst hi; exact r_get_Chute rfl ht (by simpa [G.real] using h)
theorem lit_Chute (l : List Chute) : List.map (Chute.ds t) l = t.d_Chute l := by subst ht; rfl
theorem litn_Chute (l : List Chute) : l.length = g.dlen (t.d_Chute l) := by subst hg; subst ht; rw [dd_Chute]; simp [G.real]
theorem dlen_Chute (l : List Chute) : g.dlen (t.d_Chute l) = (t.d_Chute l).length := by subst hg; rfl
theorem dlen_nil_Chute : g.dlen (t.d_Chute []) = 0 := by subst hg; subst ht; rfl
theorem drep_Chute (j : Int) (z : Chute) : g.drep j (Chute.ds t z) = t.d_Chute (List.replicate (g.nat j) z) := by subst hg; subst ht; rw [dd_Chute]; simp [G.real]
theorem drepn_Chute (j : Int) (z : Chute) : g.nat j = g.dlen (t.d_Chute (List.replicate (g.nat j) z)) := by subst hg; subst ht; rw [dd_Chute]; simp [G.real]
theorem dset_Chute (l : List Chute) (i : Nat) (x : Chute) : g.dset (t.d_Chute l) i (Chute.ds t x) = t.d_Chute (l.set i x) := by subst hg; subst ht; rw [dd_Chute, dd_Chute]; simp [G.real, List.map_set]
theorem dsets_Chute {l : List Chute} {i : Nat} {x : Chute} (h : l[i]? = some x) : g.dset (t.d_Chute l) i (Chute.ds t x) = t.d_Chute l := by
  rw [dset_Chute hg ht]
  congr 1
  apply List.ext_getElem?
  intro j
  rw [List.getElem?_set]
  split
  · rename_i e
    subst e
    rw [h]
    split
    · rfl
    · rename_i hn
      rw [List.getElem?_eq_none (by omega)] at h
      cases h
  · rfl
theorem app_Chute {l m : List Chute} {n : Nat} {news : List (List D)} (h1 : n = (t.d_Chute l).length) (h2 : news = t.d_Chute m) : g.dapp (t.d_Chute l) n news = t.d_Chute (l ++ m) := by
  subst h1; subst h2; subst hg; subst ht; simp only [dd_Chute, G.real, List.map_append, List.take_length]
theorem appl_Chute {l m : List Chute} {n : Nat} {news : List (List D)} (h1 : n = (t.d_Chute l).length) (h2 : news = t.d_Chute m) : g.nadd n (g.dlen news) = g.dlen (t.d_Chute (l ++ m)) := by
  subst h1; subst h2; subst hg; subst ht; simp only [dd_Chute, G.real, List.map_append, List.length_append]
theorem app_ok_Chute {l m : List Chute} {n b : Nat} {news : List (List D)} (h1 : n = (t.d_Chute l).length) (h2 : news = t.d_Chute m) (h : (l.length + m.length) * b ≤ 70368744177664) (hb : 0 < b := by decide) : 0 = 0 ∧ n ≤ (t.d_Chute l).length ∧ n + news.length ≤ maxLen ∧ (n + news.length) * b ≤ 140737488355328 :=
  app_okG h1 (d_len_Chute ht l) (h2 ▸ d_len_Chute ht m) hb h
theorem appn_ok_Chute {m : List Chute} {b : Nat} {news : List (List D)} (h2 : news = t.d_Chute m) (h : m.length * b ≤ 70368744177664) (hb : 0 < b := by decide) : news.length ≤ maxLen ∧ news.length * b ≤ 140737488355328 :=
  appn_okG (h2 ▸ d_len_Chute ht m) hb h
theorem dsubw_Chute {m : List Chute} {n : Nat} (h : n = (t.d_Chute m).length) : g.dsub (t.d_Chute m) 0 n = t.d_Chute m := by subst h; subst hg; simp [G.real]
theorem rda_Chute (l : List Chute) : g.rda (t.d_Chute l) = t.r_Chute l := by subst hg; subst ht; exact rdr_Chute l
theorem litr_Chute (l : List Chute) : g.rda (List.map (Chute.ds t) l) = t.r_Chute l := by rw [lit_Chute hg ht]; exact rda_Chute hg ht l
theorem rd_Chute (l : List Chute) (lo n : Nat) : g.rd (t.d_Chute l) lo n = t.r_Chute (List.take n (List.drop lo l)) := by
  subst hg; subst ht
  rw [← rdr_Chute, dd_Chute, dd_Chute]
  simp [G.real]
theorem rdw_Chute {l : List Chute} {n : Nat} (h : n = (t.d_Chute l).length) : g.rd (t.d_Chute l) 0 n = t.r_Chute l := by rw [rd_Chute hg ht, h, d_len_Chute ht]; simp
theorem rsub_Chute (l : List Chute) (a b : Int) : g.rsub (t.r_Chute l) a b = t.r_Chute (List.drop (g.nat a) (List.take (g.nat b) l)) := by subst hg; subst ht; rw [rr_Chute, rr_Chute]; simp [G.real]
theorem ltL_true_Chute {l : List Chute} {i : Int} {k : Nat} (hi : i = ((k : Nat) : Int)) (hc : k < l.length) : g.lt i (g.llen (t.r_Chute l)) = true := by subst hg; simp [G.real, r_len_Chute ht]; omega
theorem ltL_false_Chute {l : List Chute} {i : Int} {k : Nat} (hi : i = ((k : Nat) : Int)) (hc : ¬ k < l.length) : g.lt i (g.llen (t.r_Chute l)) = false := by subst hg; simp [G.real, r_len_Chute ht]; omega
theorem stepL_Chute {l : List Chute} {i : Int} {k : Nat} (hi : i = ((k : Nat) : Int)) (hc : k < l.length) (hm : (t.r_Chute l).length ≤ maxLen) : g.wrap .i64 (g.add i 1) = ((k + 1 : Nat) : Int) := by
  subst hg; rw [r_len_Chute ht] at hm; unfold maxLen at hm; simp only [G.real]; rw [i64_in] <;> omega
@[simp] theorem llen_Chute (l : List Chute) : G.real.llen (TE.real.r_Chute l) = (l.length : Int) := by rw [rr_Chute]; simp [G.real]
@[simp] theorem dlenx_Chute (l : List Chute) : G.real.dlen (TE.real.d_Chute l) = l.length := by rw [dd_Chute]; simp [G.real]
@[simp] theorem rlenx_Chute (l : List Chute) : (TE.real.r_Chute l).length = l.length := by rw [rr_Chute]; simp
end
theorem rr_Inlet (l : List Inlet) : TE.real.r_Inlet l = l.map (Inlet.rs TE.real) := rfl
theorem dd_Inlet (l : List Inlet) : TE.real.d_Inlet l = l.map (Inlet.ds TE.real) := rfl
theorem rdx_Inlet (x : Inlet) : toRds (Inlet.ds TE.real x) = Inlet.rs TE.real x := by simp [Inlet.ds, Inlet.rs, toRds, toRd, rdr_Item, frr_Item]
theorem frx_Inlet (x : Inlet) : freshDs (Inlet.ds TE.real x) = true := by simp [Inlet.ds, freshDs, freshD, rdr_Item, frr_Item]
theorem rdr_Inlet (l : List Inlet) : toRdss (TE.real.d_Inlet l) = TE.real.r_Inlet l := by rw [dd_Inlet, rr_Inlet]; exact toRdss_of rdx_Inlet l
theorem frr_Inlet (l : List Inlet) : freshDss (TE.real.d_Inlet l) = true := by rw [dd_Inlet]; exact fresh_of frx_Inlet l
section
variable {g : G} {t : TE} (hg : g = G.real) (ht : t = TE.real)
include ht
theorem r_len_Inlet (l : List Inlet) : (t.r_Inlet l).length = l.length := by subst ht; rw [rr_Inlet]; simp
theorem d_len_Inlet (l : List Inlet) : (t.d_Inlet l).length = l.length := by subst ht; rw [dd_Inlet]; simp
theorem d_nil_Inlet : t.d_Inlet [] = [] := by subst ht; rfl
theorem r_nil_Inlet : t.r_Inlet [] = [] := by subst ht; rfl
theorem d_cons_Inlet (x : Inlet) (l : List Inlet) : t.d_Inlet (x :: l) = Inlet.ds t x :: t.d_Inlet l := by subst ht; rfl
theorem dsetl_Inlet (l : List Inlet) (i : Nat) (x : Inlet) : (t.d_Inlet (l.set i x)).length = (t.d_Inlet l).length := by subst ht; rw [dd_Inlet, dd_Inlet]; simp
theorem lenp_Inlet {l l2 : List Inlet} {n : Nat} (h : n = (t.d_Inlet l).length) (h2 : l2.length = l.length) : n = (t.d_Inlet l2).length := by rw [h, d_len_Inlet ht, d_len_Inlet ht, h2]
theorem fresh_Inlet (l : List Inlet) : freshDss (t.d_Inlet l) = true := by subst ht; exact frr_Inlet l
theorem lend_Inlet {l : List Inlet} {n : Nat} (h : n = (t.d_Inlet l).length) : 0 + n ≤ (t.d_Inlet l).length := by omega
theorem lendp_Inlet {l : List Inlet} {lo n : Nat} (h : lo + n ≤ l.length) : lo + n ≤ (t.d_Inlet l).length := by rw [d_len_Inlet ht]; exact h
include hg
theorem r_get_Inlet {l : List Inlet} {i : Nat} {x : Inlet} (h : l[i]? = some x) : (t.r_Inlet l)[i]? = some (Inlet.rs t x) := by subst ht; rw [rr_Inlet]; exact map_get _ h
theorem d_get_Inlet {l : List Inlet} {i : Nat} {x : Inlet} (h : l[i]? = some x) : (t.d_Inlet l)[i]? = some (Inlet.ds t x) := by subst ht; rw [dd_Inlet]; exact map_get _ h
theorem r_getL_Inlet {l : List Inlet} {i : Int} {k : Nat} {x : Inlet} (hi : i = ((k : Nat) : Int)) (h : l[k]? = some x) : (t.r_Inlet l)[g.nat i]? = some (Inlet.rs t x) := by
  subst hg; subst hi; exact r_get_Inlet rfl ht (by simpa [G.real] using h)
theorem lit_Inlet (l : List Inlet) : List.map (Inlet.ds t) l = t.d_Inlet l := by subst ht; rfl
theorem litn_Inlet (l : List Inlet) : l.length = g.dlen (t.d_Inlet l) := by subst hg; subst ht; rw [dd_Inlet]; simp [G.real]
theorem dlen_Inlet (l : List Inlet) : g.dlen (t.d_Inlet l) = (t.d_Inlet l).length := by subst hg; rfl
theorem dlen_nil_Inlet : g.dlen (t.d_Inlet []) = 0 := by subst hg; subst ht; rfl
theorem drep_Inlet (j : Int) (z : Inlet) : g.drep j (Inlet.ds t z) = t.d_Inlet (List.replicate (g.nat j) z) := by subst hg; subst ht; rw [dd_Inlet]; simp [G.real]
theorem drepn_Inlet (j : Int) (z : Inlet) : g.nat j = g.dlen (t.d_Inlet (List.replicate (g.nat j) z)) := by subst hg; subst ht; rw [dd_Inlet]; simp [G.real]
theorem dset_Inlet (l : List Inlet) (i : Nat) (x : Inlet) : g.dset (t.d_Inlet l) i (Inlet.ds t x) = t.d_Inlet (l.set i x) := by subst hg; subst ht; rw [dd_Inlet, dd_Inlet]; simp [G.real, List.map_set]
theorem dsets_Inlet {l : List Inlet} {i : Nat} {x : Inlet} (h : l[i]? = some x) : g.dset (t.d_Inlet l) i (Inlet.ds t x) = t.d_Inlet l := by
  rw [dset_Inlet hg ht]
  congr 1
  apply List.ext_getElem?
  intro j
  rw [List.getElem?_set]
  split
  · rename_i e
    subst e
    rw [h]
    split
    · rfl
    · rename_i hn
      rw [List.getElem?_eq_none (by omega)] at h
      cases h
  · rfl
theorem app_Inlet {l m : List Inlet} {n : Nat} {news : List (List D)} (h1 : n = (t.d_Inlet l).length) (h2 : news = t.d_Inlet m) : g.dapp (t.d_Inlet l) n news = t.d_Inlet (l ++ m) := by
  subst h1; subst h2; subst hg; subst ht; simp only [dd_Inlet, G.real, List.map_append, List.take_length]
theorem appl_Inlet {l m : List Inlet} {n : Nat} {news : List (List D)} (h1 : n = (t.d_Inlet l).length) (h2 : news = t.d_Inlet m) : g.nadd n (g.dlen news) = g.dlen (t.d_Inlet (l ++ m)) := by
  subst h1; subst h2; subst hg; subst ht; simp only [dd_Inlet, G.real, List.map_append, List.length_append]
theorem app_ok_Inlet {l m : List Inlet} {n b : Nat} {news : List (List D)} (h1 : n = (t.d_Inlet l).length) (h2 : news = t.d_Inlet m) (h : (l.length + m.length) * b ≤ 70368744177664) (hb : 0 < b := by decide) : 0 = 0 ∧ n ≤ (t.d_Inlet l).length ∧ n + news.length ≤ maxLen ∧ (n + news.length) * b ≤ 140737488355328 :=
  app_okG h1 (d_len_Inlet ht l) (h2 ▸ d_len_Inlet ht m) hb h
theorem appn_ok_Inlet {m : List Inlet} {b : Nat} {news : List (List D)} (h2 : news = t.d_Inlet m) (h : m.length * b ≤ 70368744177664) (hb : 0 < b := by decide) : news.length ≤ maxLen ∧ news.length * b ≤ 140737488355328 :=
  appn_okG (h2 ▸ d_len_Inlet ht m) hb h
theorem dsubw_Inlet {m : List Inlet} {n : Nat} (h : n = (t.d_Inlet m).length) : g.dsub (t.d_Inlet m) 0 n = t.d_Inlet m := by subst h; subst hg; simp [G.real]
theorem rda_Inlet (l : List Inlet) : g.rda (t.d_Inlet l) = t.r_Inlet l := by subst hg; subst ht; exact rdr_Inlet l
theorem litr_Inlet (l : List Inlet) : g.rda (List.map (Inlet.ds t) l) = t.r_Inlet l := by rw [lit_Inlet hg ht]; exact rda_Inlet hg ht l
theorem rd_Inlet (l : List Inlet) (lo n : Nat) : g.rd (t.d_Inlet l) lo n = t.r_Inlet (List.take n (List.drop lo l)) := by
  subst hg; subst ht
  rw [← rdr_Inlet, dd_Inlet, dd_Inlet]
  simp [G.real]
theorem rdw_Inlet {l : List Inlet} {n : Nat} (h : n = (t.d_Inlet l).length) : g.rd (t.d_Inlet l) 0 n = t.r_Inlet l := by rw [rd_Inlet hg ht, h, d_len_Inlet ht]; simp
theorem rsub_Inlet (l : List Inlet) (a b : Int) : g.rsub (t.r_Inlet l) a b = t.r_Inlet (List.drop (g.nat a) (List.take (g.nat b) l)) := by subst hg; subst ht; rw [rr_Inlet, rr_Inlet]; simp [G.real]
theorem ltL_true_Inlet {l : List Inlet} {i : Int} {k : Nat} (hi : i = ((k : Nat) : Int)) (hc : k < l.length) : g.lt i (g.llen (t.r_Inlet l)) = true := by subst hg; simp [G.real, r_len_Inlet ht]; omega
theorem ltL_false_Inlet {l : List Inlet} {i : Int} {k : Nat} (hi : i = ((k : Nat) : Int)) (hc : ¬ k < l.length) : g.lt i (g.llen (t.r_Inlet l)) = false := by subst hg; simp [G.real, r_len_Inlet ht]; omega
theorem stepL_Inlet {l : List Inlet} {i : Int} {k : Nat} (hi : i = ((k : Nat) : Int)) (hc : k < l.length) (hm : (t.r_Inlet l).length ≤ maxLen) : g.wrap .i64 (g.add i 1) = ((k + 1 : Nat) : Int) := by
  subst hg; rw [r_len_Inlet ht] at hm; unfold maxLen at hm; simp only [G.real]; rw [i64_in] <;> omega
@[simp] theorem llen_Inlet (l : List Inlet) : G.real.llen (TE.real.r_Inlet l) = (l.length : Int) := by rw [rr_Inlet]; simp [G.real]
@[simp] theorem dlenx_Inlet (l : List Inlet) : G.real.dlen (TE.real.d_Inlet l) = l.length := by rw [dd_Inlet]; simp [G.real]
@[simp] theorem rlenx_Inlet (l : List Inlet) : (TE.real.r_Inlet l).length = l.length := by rw [rr_Inlet]; simp
end
theorem flx_I64 (x : Int) : flatD (I64.ds TE.real x) = true := rfl
theorem rr_I64 (l : List Int) : TE.real.r_I64 l = l.map (I64.rs TE.real) := rfl
theorem dd_I64 (l : List Int) : TE.real.d_I64 l = l.map (I64.ds TE.real) := rfl
theorem rdx_I64 (x : Int) : toRds (I64.ds TE.real x) = I64.rs TE.real x := by simp [I64.ds, I64.rs, toRds, toRd]
theorem frx_I64 (x : Int) : freshDs (I64.ds TE.real x) = true := by simp [I64.ds, freshDs, freshD]
theorem rdr_I64 (l : List Int) : toRdss (TE.real.d_I64 l) = TE.real.r_I64 l := by rw [dd_I64, rr_I64]; exact toRdss_of rdx_I64 l
theorem frr_I64 (l : List Int) : freshDss (TE.real.d_I64 l) = true := by rw [dd_I64]; exact fresh_of frx_I64 l
section
variable {g : G} {t : TE} (hg : g = G.real) (ht : t = TE.real)
include ht
theorem r_len_I64 (l : List Int) : (t.r_I64 l).length = l.length := by subst ht; rw [rr_I64]; simp
theorem d_len_I64 (l : List Int) : (t.d_I64 l).length = l.length := by subst ht; rw [dd_I64]; simp
theorem d_nil_I64 : t.d_I64 [] = [] := by subst ht; rfl
theorem r_nil_I64 : t.r_I64 [] = [] := by subst ht; rfl
theorem d_cons_I64 (x : Int) (l : List Int) : t.d_I64 (x :: l) = I64.ds t x :: t.d_I64 l := by subst ht; rfl
theorem dsetl_I64 (l : List Int) (i : Nat) (x : Int) : (t.d_I64 (l.set i x)).length = (t.d_I64 l).length := by subst ht; rw [dd_I64, dd_I64]; simp
theorem lenp_I64 {l l2 : List Int} {n : Nat} (h : n = (t.d_I64 l).length) (h2 : l2.length = l.length) : n = (t.d_I64 l2).length := by rw [h, d_len_I64 ht, d_len_I64 ht, h2]
theorem fresh_I64 (l : List Int) : freshDss (t.d_I64 l) = true := by subst ht; exact frr_I64 l
theorem lend_I64 {l : List Int} {n : Nat} (h : n = (t.d_I64 l).length) : 0 + n ≤ (t.d_I64 l).length := by omega
theorem lendp_I64 {l : List Int} {lo n : Nat} (h : lo + n ≤ l.length) : lo + n ≤ (t.d_I64 l).length := by rw [d_len_I64 ht]; exact h
include hg
theorem r_get_I64 {l : List Int} {i : Nat} {x : Int} (h : l[i]? = some x) : (t.r_I64 l)[i]? = some (I64.rs t x) := by subst ht; rw [rr_I64]; exact map_get _ h
theorem d_get_I64 {l : List Int} {i : Nat} {x : Int} (h : l[i]? = some x) : (t.d_I64 l)[i]? = some (I64.ds t x) := by subst ht; rw [dd_I64]; exact map_get _ h
theorem r_getL_I64 {l : List Int} {i : Int} {k : Nat} {x : Int} (hi : i = ((k : Nat) : Int)) (h : l[k]? = some x) : (t.r_I64 l)[g.nat i]? = some (I64.rs t x) := by
  subst hg; subst hi; exact r_get_I64 rfl ht (by simpa [G.real] using h)
theorem lit_I64 (l : List Int) : List.map (I64.ds t) l = t.d_I64 l := by subst ht; rfl
theorem litn_I64 (l : List Int) : l.length = g.dlen (t.d_I64 l) := by subst hg; subst ht; rw [dd_I64]; simp [G.real]
theorem dlen_I64 (l : List Int) : g.dlen (t.d_I64 l) = (t.d_I64 l).length := by subst hg; rfl
theorem dlen_nil_I64 : g.dlen (t.d_I64 []) = 0 := by subst hg; subst ht; rfl
theorem drep_I64 (j : Int) (z : Int) : g.drep j (I64.ds t z) = t.d_I64 (List.replicate (g.nat j) z) := by subst hg; subst ht; rw [dd_I64]; simp [G.real]
theorem drepn_I64 (j : Int) (z : Int) : g.nat j = g.dlen (t.d_I64 (List.replicate (g.nat j) z)) := by subst hg; subst ht; rw [dd_I64]; simp [G.real]
theorem dset_I64 (l : List Int) (i : Nat) (x : Int) : g.dset (t.d_I64 l) i (I64.ds t x) = t.d_I64 (l.set i x) := by subst hg; subst ht; rw [dd_I64, dd_I64]; simp [G.real, List.map_set]
theorem dsets_I64 {l : List Int} {i : Nat} {x : Int} (h : l[i]? = some x) : g.dset (t.d_I64 l) i (I64.ds t x) = t.d_I64 l := by
  rw [dset_I64 hg ht]
  congr 1
  apply List.ext_getElem?
  intro j
  rw [List.getElem?_set]
  split
  · rename_i e
    subst e
    rw [h]
    split
    · rfl
    · rename_i hn
      rw [List.getElem?_eq_none (by omega)] at h
      cases h
  · rfl
theorem app_I64 {l m : List Int} {n : Nat} {news : List (List D)} (h1 : n = (t.d_I64 l).length) (h2 : news = t.d_I64 m) : g.dapp (t.d_I64 l) n news = t.d_I64 (l ++ m) := by
  subst h1; subst h2; subst hg; subst ht; simp only [dd_I64, G.real, List.map_append, List.take_length]
theorem appl_I64 {l m : List Int} {n : Nat} {news : List (List D)} (h1 : n = (t.d_I64 l).length) (h2 : news = t.d_I64 m) : g.nadd n (g.dlen news) = g.dlen (t.d_I64 (l ++ m)) := by
  subst h1; subst h2; subst hg; subst ht; simp only [dd_I64, G.real, List.map_append, List.length_append]
theorem app_ok_I64 {l m : List Int} {n b : Nat} {news : List (List D)} (h1 : n = (t.d_I64 l).length) (h2 : news = t.d_I64 m) (h : (l.length + m.length) * b ≤ 70368744177664) (hb : 0 < b := by decide) : 0 = 0 ∧ n ≤ (t.d_I64 l).length ∧ n + news.length ≤ maxLen ∧ (n + news.length) * b ≤ 140737488355328 :=
  app_okG h1 (d_len_I64 ht l) (h2 ▸ d_len_I64 ht m) hb h
theorem appn_ok_I64 {m : List Int} {b : Nat} {news : List (List D)} (h2 : news = t.d_I64 m) (h : m.length * b ≤ 70368744177664) (hb : 0 < b := by decide) : news.length ≤ maxLen ∧ news.length * b ≤ 140737488355328 :=
  appn_okG (h2 ▸ d_len_I64 ht m) hb h
theorem dsubw_I64 {m : List Int} {n : Nat} (h : n = (t.d_I64 m).length) : g.dsub (t.d_I64 m) 0 n = t.d_I64 m := by subst h; subst hg; simp [G.real]
theorem rda_I64 (l : List Int) : g.rda (t.d_I64 l) = t.r_I64 l := by subst hg; subst ht; exact rdr_I64 l
theorem litr_I64 (l : List Int) : g.rda (List.map (I64.ds t) l) = t.r_I64 l := by rw [lit_I64 hg ht]; exact rda_I64 hg ht l
theorem rd_I64 (l : List Int) (lo n : Nat) : g.rd (t.d_I64 l) lo n = t.r_I64 (List.take n (List.drop lo l)) := by
  subst hg; subst ht
  rw [← rdr_I64, dd_I64, dd_I64]
  simp [G.real]
theorem rdw_I64 {l : List Int} {n : Nat} (h : n = (t.d_I64 l).length) : g.rd (t.d_I64 l) 0 n = t.r_I64 l := by rw [rd_I64 hg ht, h, d_len_I64 ht]; simp
theorem rsub_I64 (l : List Int) (a b : Int) : g.rsub (t.r_I64 l) a b = t.r_I64 (List.drop (g.nat a) (List.take (g.nat b) l)) := by subst hg; subst ht; rw [rr_I64, rr_I64]; simp [G.real]
theorem ltL_true_I64 {l : List Int} {i : Int} {k : Nat} (hi : i = ((k : Nat) : Int)) (hc : k < l.length) : g.lt i (g.llen (t.r_I64 l)) = true := by subst hg; simp [G.real, r_len_I64 ht]; omega
theorem ltL_false_I64 {l : List Int} {i : Int} {k : Nat} (hi : i = ((k : Nat) : Int)) (hc : ¬ k < l.length) : g.lt i (g.llen (t.r_I64 l)) = false := by subst hg; simp [G.real, r_len_I64 ht]; omega
theorem stepL_I64 {l : List Int} {i : Int} {k : Nat} (hi : i = ((k : Nat) : Int)) (hc : k < l.length) (hm : (t.r_I64 l).length ≤ maxLen) : g.wrap .i64 (g.add i 1) = ((k + 1 : Nat) : Int) := by
  subst hg; rw [r_len_I64 ht] at hm; unfold maxLen at hm; simp only [G.real]; rw [i64_in] <;> omega
@[simp] theorem llen_I64 (l : List Int) : G.real.llen (TE.real.r_I64 l) = (l.length : Int) := by rw [rr_I64]; simp [G.real]
@[simp] theorem dlenx_I64 (l : List Int) : G.real.dlen (TE.real.d_I64 l) = l.length := by rw [dd_I64]; simp [G.real]
@[simp] theorem rlenx_I64 (l : List Int) : (TE.real.r_I64 l).length = l.length := by rw [rr_I64]; simp
theorem dsub_I64 (m : List Int) (lo n : Nat) : g.dsub (t.d_I64 m) lo n = t.d_I64 (List.take n (List.drop lo m)) := by subst hg; subst ht; rw [dd_I64, dd_I64]; simp [G.real]
theorem subp_ok_I64 {m : List Int} {lo n : Nat} (h : lo + n ≤ m.length) : lo + n ≤ (t.d_I64 m).length ∧ flatDs (((t.d_I64 m).drop lo).take n) = true := by
  subst ht; refine ⟨by rw [d_len_I64 rfl]; exact h, ?_⟩
  rw [dd_I64, ← List.map_drop, ← List.map_take]; exact flat_of flx_I64 _
theorem up_I64 (m : List Int) : g.up (t.r_I64 m) = t.d_I64 m := by subst hg; subst ht; rw [rr_I64, dd_I64]; simp [G.real, I64.rs, I64.ds]
theorem subw_ok_I64 {m : List Int} {n : Nat} (h : n = (t.d_I64 m).length) : 0 + n ≤ (t.d_I64 m).length ∧ flatDs (((t.d_I64 m).drop 0).take n) = true := by
  subst h; subst ht; refine ⟨by omega, ?_⟩
  simp only [List.drop_zero, List.take_length, dd_I64]; exact flat_of flx_I64 m
end
theorem flx_U8 (x : Int) : flatD (U8.ds TE.real x) = true := rfl
theorem rr_U8 (l : List Int) : TE.real.r_U8 l = l.map (U8.rs TE.real) := rfl
theorem dd_U8 (l : List Int) : TE.real.d_U8 l = l.map (U8.ds TE.real) := rfl
theorem rdx_U8 (x : Int) : toRds (U8.ds TE.real x) = U8.rs TE.real x := by simp [U8.ds, U8.rs, toRds, toRd]
theorem frx_U8 (x : Int) : freshDs (U8.ds TE.real x) = true := by simp [U8.ds, freshDs, freshD]
theorem rdr_U8 (l : List Int) : toRdss (TE.real.d_U8 l) = TE.real.r_U8 l := by rw [dd_U8, rr_U8]; exact toRdss_of rdx_U8 l
theorem frr_U8 (l : List Int) : freshDss (TE.real.d_U8 l) = true := by rw [dd_U8]; exact fresh_of frx_U8 l
section
variable {g : G} {t : TE} (hg : g = G.real) (ht : t = TE.real)
include ht
theorem r_len_U8 (l : List Int) : (t.r_U8 l).length = l.length := by subst ht; rw [rr_U8]; simp
theorem d_len_U8 (l : List Int) : (t.d_U8 l).length = l.length := by subst ht; rw [dd_U8]; simp
theorem d_nil_U8 : t.d_U8 [] = [] := by subst ht; rfl
theorem r_nil_U8 : t.r_U8 [] = [] := by subst ht; rfl
theorem d_cons_U8 (x : Int) (l : List Int) : t.d_U8 (x :: l) = U8.ds t x :: t.d_U8 l := by subst ht; rfl
theorem dsetl_U8 (l : List Int) (i : Nat) (x : Int) : (t.d_U8 (l.set i x)).length = (t.d_U8 l).length := by subst ht; rw [dd_U8, dd_U8]; simp
theorem lenp_U8 {l l2 : List Int} {n : Nat} (h : n = (t.d_U8 l).length) (h2 : l2.length = l.length) : n = (t.d_U8 l2).length := by rw [h, d_len_U8 ht, d_len_U8 ht, h2]
theorem fresh_U8 (l : List Int) : freshDss (t.d_U8 l) = true := by subst ht; exact frr_U8 l
theorem lend_U8 {l : List Int} {n : Nat} (h : n = (t.d_U8 l).length) : 0 + n ≤ (t.d_U8 l).length := by omega
theorem lendp_U8 {l : List Int} {lo n : Nat} (h : lo + n ≤ l.length) : lo + n ≤ (t.d_U8 l).length := by rw [d_len_U8 ht]; exact h
include hg
theorem r_get_U8 {l : List Int} {i : Nat} {x : Int} (h : l[i]? = some x) : (t.r_U8 l)[i]? = some (U8.rs t x) := by subst ht; rw [rr_U8]; exact map_get _ h
theorem d_get_U8 {l : List Int} {i : Nat} {x : Int} (h : l[i]? = some x) : (t.d_U8 l)[i]? = some (U8.ds t x) := by subst ht; rw [dd_U8]; exact map_get _ h
theorem r_getL_U8 {l : List Int} {i : Int} {k : Nat} {x : Int} (hi : i = ((k : Nat) : Int)) (h : l[k]? = some x) : (t.r_U8 l)[g.nat i]? = some (U8.rs t x) := by
  subst hg; subst hi; exact r_get_U8 rfl ht (by simpa [G.real] using h)
theorem lit_U8 (l : List Int) : List.map (U8.ds t) l = t.d_U8 l := by subst ht; rfl
theorem litn_U8 (l : List Int) : l.length = g.dlen (t.d_U8 l) := by subst hg; subst ht; rw [dd_U8]; simp [G.real]
theorem dlen_U8 (l : List Int) : g.dlen (t.d_U8 l) = (t.d_U8 l).length := by subst hg; rfl
theorem dlen_nil_U8 : g.dlen (t.d_U8 []) = 0 := by subst hg; subst ht; rfl
theorem drep_U8 (j : Int) (z : Int) : g.drep j (U8.ds t z) = t.d_U8 (List.replicate (g.nat j) z) := by subst hg; subst ht; rw [dd_U8]; simp [G.real]
theorem drepn_U8 (j : Int) (z : Int) : g.nat j = g.dlen (t.d_U8 (List.replicate (g.nat j) z)) := by subst hg; subst ht; rw [dd_U8]; simp [G.real]
theorem dset_U8 (l : List Int) (i : Nat) (x : Int) : g.dset (t.d_U8 l) i (U8.ds t x) = t.d_U8 (l.set i x) := by subst hg; subst ht; rw [dd_U8, dd_U8]; simp [G.real, List.map_set]
theorem dsets_U8 {l : List Int} {i : Nat} {x : Int} (h : l[i]? = some x) : g.dset (t.d_U8 l) i (U8.ds t x) = t.d_U8 l := by
  rw [dset_U8 hg ht]
  congr 1
  apply List.ext_getElem?
  intro j
  rw [List.getElem?_set]
  split
  · rename_i e
    subst e
    rw [h]
    split
    · rfl
    · rename_i hn
      rw [List.getElem?_eq_none (by omega)] at h
      cases h
  · rfl
theorem app_U8 {l m : List Int} {n : Nat} {news : List (List D)} (h1 : n = (t.d_U8 l).length) (h2 : news = t.d_U8 m) : g.dapp (t.d_U8 l) n news = t.d_U8 (l ++ m) := by
  subst h1; subst h2; subst hg; subst ht; simp only [dd_U8, G.real, List.map_append, List.take_length]
theorem appl_U8 {l m : List Int} {n : Nat} {news : List (List D)} (h1 : n = (t.d_U8 l).length) (h2 : news = t.d_U8 m) : g.nadd n (g.dlen news) = g.dlen (t.d_U8 (l ++ m)) := by
  subst h1; subst h2; subst hg; subst ht; simp only [dd_U8, G.real, List.map_append, List.length_append]
theorem app_ok_U8 {l m : List Int} {n b : Nat} {news : List (List D)} (h1 : n = (t.d_U8 l).length) (h2 : news = t.d_U8 m) (h : (l.length + m.length) * b ≤ 70368744177664) (hb : 0 < b := by decide) : 0 = 0 ∧ n ≤ (t.d_U8 l).length ∧ n + news.length ≤ maxLen ∧ (n + news.length) * b ≤ 140737488355328 :=
  app_okG h1 (d_len_U8 ht l) (h2 ▸ d_len_U8 ht m) hb h
theorem appn_ok_U8 {m : List Int} {b : Nat} {news : List (List D)} (h2 : news = t.d_U8 m) (h : m.length * b ≤ 70368744177664) (hb : 0 < b := by decide) : news.length ≤ maxLen ∧ news.length * b ≤ 140737488355328 :=
  appn_okG (h2 ▸ d_len_U8 ht m) hb h
theorem dsubw_U8 {m : List Int} {n : Nat} (h : n = (t.d_U8 m).length) : g.dsub (t.d_U8 m) 0 n = t.d_U8 m := by subst h; subst hg; simp [G.real]
theorem rda_U8 (l : List Int) : g.rda (t.d_U8 l) = t.r_U8 l := by subst hg; subst ht; exact rdr_U8 l
theorem litr_U8 (l : List Int) : g.rda (List.map (U8.ds t) l) = t.r_U8 l := by rw [lit_U8 hg ht]; exact rda_U8 hg ht l
theorem rd_U8 (l : List Int) (lo n : Nat) : g.rd (t.d_U8 l) lo n = t.r_U8 (List.take n (List.drop lo l)) := by
  subst hg; subst ht
  rw [← rdr_U8, dd_U8, dd_U8]
  simp [G.real]
theorem rdw_U8 {l : List Int} {n : Nat} (h : n = (t.d_U8 l).length) : g.rd (t.d_U8 l) 0 n = t.r_U8 l := by rw [rd_U8 hg ht, h, d_len_U8 ht]; simp
theorem rsub_U8 (l : List Int) (a b : Int) : g.rsub (t.r_U8 l) a b = t.r_U8 (List.drop (g.nat a) (List.take (g.nat b) l)) := by subst hg; subst ht; rw [rr_U8, rr_U8]; simp [G.real]
theorem ltL_true_U8 {l : List Int} {i : Int} {k : Nat} (hi : i = ((k : Nat) : Int)) (hc : k < l.length) : g.lt i (g.llen (t.r_U8 l)) = true := by subst hg; simp [G.real, r_len_U8 ht]; omega
theorem ltL_false_U8 {l : List Int} {i : Int} {k : Nat} (hi : i = ((k : Nat) : Int)) (hc : ¬ k < l.length) : g.lt i (g.llen (t.r_U8 l)) = false := by subst hg; simp [G.real, r_len_U8 ht]; omega
theorem stepL_U8 {l : List Int} {i : Int} {k : Nat} (hi : i = ((k : Nat) : Int)) (hc : k < l.length) (hm : (t.r_U8 l).length ≤ maxLen) : g.wrap .i64 (g.add i 1) = ((k + 1 : Nat) : Int) := by
  subst hg; rw [r_len_U8 ht] at hm; unfold maxLen at hm; simp only [G.real]; rw [i64_in] <;> omega
@[simp] theorem llen_U8 (l : List Int) : G.real.llen (TE.real.r_U8 l) = (l.length : Int) := by rw [rr_U8]; simp [G.real]
@[simp] theorem dlenx_U8 (l : List Int) : G.real.dlen (TE.real.d_U8 l) = l.length := by rw [dd_U8]; simp [G.real]
@[simp] theorem rlenx_U8 (l : List Int) : (TE.real.r_U8 l).length = l.length := by rw [rr_U8]; simp
theorem dsub_U8 (m : List Int) (lo n : Nat) : g.dsub (t.d_U8 m) lo n = t.d_U8 (List.take n (List.drop lo m)) := by subst hg; subst ht; rw [dd_U8, dd_U8]; simp [G.real]
theorem subp_ok_U8 {m : List Int} {lo n : Nat} (h : lo + n ≤ m.length) : lo + n ≤ (t.d_U8 m).length ∧ flatDs (((t.d_U8 m).drop lo).take n) = true := by
  subst ht; refine ⟨by rw [d_len_U8 rfl]; exact h, ?_⟩
  rw [dd_U8, ← List.map_drop, ← List.map_take]; exact flat_of flx_U8 _
theorem up_U8 (m : List Int) : g.up (t.r_U8 m) = t.d_U8 m := by subst hg; subst ht; rw [rr_U8, dd_U8]; simp [G.real, U8.rs, U8.ds]
theorem subw_ok_U8 {m : List Int} {n : Nat} (h : n = (t.d_U8 m).length) : 0 + n ≤ (t.d_U8 m).length ∧ flatDs (((t.d_U8 m).drop 0).take n) = true := by
  subst h; subst ht; refine ⟨by omega, ?_⟩
  simp only [List.drop_zero, List.take_length, dd_U8]; exact flat_of flx_U8 m
end
theorem dd_InletF (l : List Inlet) : TE.real.d_InletF l = l.map (InletF.ds TE.real) := rfl
theorem rdx_InletF (x : Inlet) : toRds (InletF.ds TE.real x) = Inlet.rs TE.real x := by simp [InletF.ds, Inlet.rs, toRds, toRd]
theorem fzx_InletF (x : Inlet) : fzAt 1 (Inlet.ds TE.real x) = InletF.ds TE.real x := by simp [InletF.ds, Inlet.ds, fzAt, toRd]; exact rdr_Item _
theorem rdr_InletF (l : List Inlet) : toRdss (TE.real.d_InletF l) = TE.real.r_Inlet l := by rw [dd_InletF, rr_Inlet]; exact toRdss_of rdx_InletF l
section
variable {g : G} {t : TE} (hg : g = G.real) (ht : t = TE.real)
include ht
theorem d_len_InletF (l : List Inlet) : (t.d_InletF l).length = l.length := by subst ht; rw [dd_InletF]; simp
theorem d_nil_InletF : t.d_InletF [] = [] := by subst ht; rfl
theorem dsetl_InletF (l : List Inlet) (i : Nat) (x : Inlet) : (t.d_InletF (l.set i x)).length = (t.d_InletF l).length := by subst ht; rw [dd_InletF, dd_InletF]; simp
theorem lend_InletF {l : List Inlet} {n : Nat} (h : n = (t.d_InletF l).length) : 0 + n ≤ (t.d_InletF l).length := by omega
theorem lenp_InletF {l l2 : List Inlet} {n : Nat} (h : n = (t.d_InletF l).length) (h2 : l2.length = l.length) : n = (t.d_InletF l2).length := by rw [h, d_len_InletF ht, d_len_InletF ht, h2]
include hg
theorem fzc_InletF (l : List Inlet) : g.fzc 1 (t.d_Inlet l) = t.d_InletF l := by
  subst hg; subst ht; rw [dd_InletF, dd_Inlet]; simp only [G.real, List.map_map]
  exact List.map_congr_left fun x _ => fzx_InletF x
theorem d_get_InletF {l : List Inlet} {i : Nat} {x : Inlet} (h : l[i]? = some x) : (t.d_InletF l)[i]? = some (InletF.ds t x) := by subst ht; rw [dd_InletF]; exact map_get _ h
theorem dlen_InletF (l : List Inlet) : g.dlen (t.d_InletF l) = (t.d_InletF l).length := by subst hg; rfl
theorem dlen_nil_InletF : g.dlen (t.d_InletF []) = 0 := by subst hg; subst ht; rfl
theorem dset_InletF (l : List Inlet) (i : Nat) (x : Inlet) : g.dset (t.d_InletF l) i (InletF.ds t x) = t.d_InletF (l.set i x) := by subst hg; subst ht; rw [dd_InletF, dd_InletF]; simp [G.real, List.map_set]
theorem rd_InletF (l : List Inlet) (lo n : Nat) : g.rd (t.d_InletF l) lo n = t.r_Inlet (List.take n (List.drop lo l)) := by
  subst hg; subst ht
  rw [← rdr_InletF, dd_InletF, dd_InletF]
  simp [G.real]
theorem rdw_InletF {l : List Inlet} {n : Nat} (h : n = (t.d_InletF l).length) : g.rd (t.d_InletF l) 0 n = t.r_Inlet l := by rw [rd_InletF hg ht, h, d_len_InletF ht]; simp
@[simp] theorem dlenx_InletF (l : List Inlet) : G.real.dlen (TE.real.d_InletF l) = l.length := by rw [dd_InletF]; simp [G.real]
end
end Go.Vs
