/- Part of the proofs of this seat's laws: Ty. No condition. -/
import Derived.Test.YtkchjifooaonjaaVf
set_option linter.unusedVariables false
set_option linter.unusedSimpArgs false
set_option linter.unusedSectionVars false
namespace Go.Vs
open Go.IntWalk
set_option linter.unusedVariables false
set_option linter.unusedSimpArgs false
set_option linter.unusedSectionVars false
structure Leg where
  From : ByteArray
  To : ByteArray
  Start : Int
  Takes : Int
  Days : Int
  Room : Int
structure Network where
  Legs : List Leg
  Off : List Int
  Change : Int
structure Trip where
  Leg : Int
  Day : Int
structure Scan where
  Thing : Int
  At : Int
  Kind : Int
  Place : ByteArray
  Trip : Trip
structure Spot where
  Place : ByteArray
  At : Int
def rLeg (l : List Leg) : List (List R) := l.map fun x => [.v (.string x.From), .v (.string x.To), .v (.int .i64 x.Start), .v (.int .i64 x.Takes), .v (.int .i64 x.Days), .v (.int .i64 x.Room)]
def dLeg (l : List Leg) : List (List D) := l.map fun x => [.r (.v (.string x.From)), .r (.v (.string x.To)), .r (.v (.int .i64 x.Start)), .r (.v (.int .i64 x.Takes)), .r (.v (.int .i64 x.Days)), .r (.v (.int .i64 x.Room))]
def rI64 (l : List Int) : List (List R) := l.map fun x => [.v (.int .i64 x)]
def dI64 (l : List Int) : List (List D) := l.map fun x => [.r (.v (.int .i64 x))]
def rS (l : List ByteArray) : List (List R) := l.map fun x => [.v (.string x)]
def dS (l : List ByteArray) : List (List D) := l.map fun x => [.r (.v (.string x))]
structure TE where
  r_Leg : List Leg → List (List R)
  d_Leg : List Leg → List (List D)
  r_I64 : List Int → List (List R)
  d_I64 : List Int → List (List D)
  r_S : List ByteArray → List (List R)
  d_S : List ByteArray → List (List D)
def TE.real : TE := ⟨rLeg, dLeg, rI64, dI64, rS, dS⟩
def Leg.rs (t : TE) (x : Leg) : List R := [.v (.string x.From), .v (.string x.To), .v (.int .i64 x.Start), .v (.int .i64 x.Takes), .v (.int .i64 x.Days), .v (.int .i64 x.Room)]
def Leg.ds (t : TE) (x : Leg) : List D := [.r (.v (.string x.From)), .r (.v (.string x.To)), .r (.v (.int .i64 x.Start)), .r (.v (.int .i64 x.Takes)), .r (.v (.int .i64 x.Days)), .r (.v (.int .i64 x.Room))]
def Network.rs (t : TE) (x : Network) : List R := [.s 6 (t.r_Leg x.Legs), .s 1 (t.r_I64 x.Off), .v (.int .i64 x.Change)]
def Network.ds (t : TE) (x : Network) : List D := [.o 6 (t.d_Leg x.Legs), .o 1 (t.d_I64 x.Off), .r (.v (.int .i64 x.Change))]
def Trip.rs (t : TE) (x : Trip) : List R := [.v (.int .i64 x.Leg), .v (.int .i64 x.Day)]
def Trip.ds (t : TE) (x : Trip) : List D := [.r (.v (.int .i64 x.Leg)), .r (.v (.int .i64 x.Day))]
def Scan.rs (t : TE) (x : Scan) : List R := [.v (.int .i64 x.Thing), .v (.int .i64 x.At), .v (.int .i64 x.Kind), .v (.string x.Place), .v (.int .i64 x.Trip.Leg), .v (.int .i64 x.Trip.Day)]
def Scan.ds (t : TE) (x : Scan) : List D := [.r (.v (.int .i64 x.Thing)), .r (.v (.int .i64 x.At)), .r (.v (.int .i64 x.Kind)), .r (.v (.string x.Place)), .r (.v (.int .i64 x.Trip.Leg)), .r (.v (.int .i64 x.Trip.Day))]
def Spot.rs (t : TE) (x : Spot) : List R := [.v (.string x.Place), .v (.int .i64 x.At)]
def Spot.ds (t : TE) (x : Spot) : List D := [.r (.v (.string x.Place)), .r (.v (.int .i64 x.At))]
def I64.rs (t : TE) (x : Int) : List R := [.v (.int .i64 x)]
def I64.ds (t : TE) (x : Int) : List D := [.r (.v (.int .i64 x))]
def S.rs (t : TE) (x : ByteArray) : List R := [.v (.string x)]
def S.ds (t : TE) (x : ByteArray) : List D := [.r (.v (.string x))]
theorem map_get {α β : Type} (f : α → β) {l : List α} {i : Nat} {x : α} (h : l[i]? = some x) : (l.map f)[i]? = some (f x) := by rw [List.getElem?_map, h]; rfl
theorem toRdss_of {α : Type} {f : α → List D} {q : α → List R} (h : ∀ x, toRds (f x) = q x) (l : List α) : toRdss (l.map f) = l.map q := by
  induction l with
  | nil => rfl
  | cons x l ih => simp only [List.map_cons, toRdss, h, ih]
theorem fresh_of {α : Type} {f : α → List D} (h : ∀ x, freshDs (f x) = true) (l : List α) : freshDss (l.map f) = true := by
  induction l with
  | nil => rfl
  | cons x l ih => simp only [List.map_cons, freshDss, h, ih, Bool.and_self]
theorem flat_of {α : Type} {f : α → List D} (h : ∀ x, flatD (f x) = true) (l : List α) : flatDs (l.map f) = true := by
  induction l with
  | nil => rfl
  | cons x l ih => simp only [List.map_cons, flatDs, h, ih, Bool.and_self]
theorem flx_Leg (x : Leg) : flatD (Leg.ds TE.real x) = true := rfl
theorem rr_Leg (l : List Leg) : TE.real.r_Leg l = l.map (Leg.rs TE.real) := rfl
theorem dd_Leg (l : List Leg) : TE.real.d_Leg l = l.map (Leg.ds TE.real) := rfl
theorem rdx_Leg (x : Leg) : toRds (Leg.ds TE.real x) = Leg.rs TE.real x := by simp [Leg.ds, Leg.rs, toRds, toRd]
theorem frx_Leg (x : Leg) : freshDs (Leg.ds TE.real x) = true := by simp [Leg.ds, freshDs, freshD]
theorem rdr_Leg (l : List Leg) : toRdss (TE.real.d_Leg l) = TE.real.r_Leg l := by rw [dd_Leg, rr_Leg]; exact toRdss_of rdx_Leg l
theorem frr_Leg (l : List Leg) : freshDss (TE.real.d_Leg l) = true := by rw [dd_Leg]; exact fresh_of frx_Leg l
section
variable {g : G} {t : TE} (hg : g = G.real) (ht : t = TE.real)
include ht
theorem r_len_Leg (l : List Leg) : (t.r_Leg l).length = l.length := by subst ht; rw [rr_Leg]; simp
theorem d_len_Leg (l : List Leg) : (t.d_Leg l).length = l.length := by subst ht; rw [dd_Leg]; simp
theorem d_nil_Leg : t.d_Leg [] = [] := by subst ht; rfl
theorem r_nil_Leg : t.r_Leg [] = [] := by subst ht; rfl
theorem d_cons_Leg (x : Leg) (l : List Leg) : t.d_Leg (x :: l) = Leg.ds t x :: t.d_Leg l := by subst ht; rfl
theorem dsetl_Leg (l : List Leg) (i : Nat) (x : Leg) : (t.d_Leg (l.set i x)).length = (t.d_Leg l).length := by subst ht; rw [dd_Leg, dd_Leg]; simp
theorem lenp_Leg {l l2 : List Leg} {n : Nat} (h : n = (t.d_Leg l).length) (h2 : l2.length = l.length) : n = (t.d_Leg l2).length := by rw [h, d_len_Leg ht, d_len_Leg ht, h2]
theorem fresh_Leg (l : List Leg) : freshDss (t.d_Leg l) = true := by subst ht; exact frr_Leg l
theorem lend_Leg {l : List Leg} {n : Nat} (h : n = (t.d_Leg l).length) : 0 + n ≤ (t.d_Leg l).length := by omega
theorem lendp_Leg {l : List Leg} {lo n : Nat} (h : lo + n ≤ l.length) : lo + n ≤ (t.d_Leg l).length := by rw [d_len_Leg ht]; exact h
include hg
theorem r_get_Leg {l : List Leg} {i : Nat} {x : Leg} (h : l[i]? = some x) : (t.r_Leg l)[i]? = some (Leg.rs t x) := by subst ht; rw [rr_Leg]; exact map_get _ h
theorem d_get_Leg {l : List Leg} {i : Nat} {x : Leg} (h : l[i]? = some x) : (t.d_Leg l)[i]? = some (Leg.ds t x) := by subst ht; rw [dd_Leg]; exact map_get _ h
theorem r_getL_Leg {l : List Leg} {i : Int} {k : Nat} {x : Leg} (hi : i = ((k : Nat) : Int)) (h : l[k]? = some x) : (t.r_Leg l)[g.nat i]? = some (Leg.rs t x) := by
  subst hg; subst hi; exact r_get_Leg rfl ht (by simpa [G.real] using h)
theorem lit_Leg (l : List Leg) : List.map (Leg.ds t) l = t.d_Leg l := by subst ht; rfl
theorem litn_Leg (l : List Leg) : l.length = g.dlen (t.d_Leg l) := by subst hg; subst ht; rw [dd_Leg]; simp [G.real]
theorem dlen_Leg (l : List Leg) : g.dlen (t.d_Leg l) = (t.d_Leg l).length := by subst hg; rfl
theorem dlen_nil_Leg : g.dlen (t.d_Leg []) = 0 := by subst hg; subst ht; rfl
theorem drep_Leg (j : Int) (z : Leg) : g.drep j (Leg.ds t z) = t.d_Leg (List.replicate (g.nat j) z) := by subst hg; subst ht; rw [dd_Leg]; simp [G.real]
theorem drepn_Leg (j : Int) (z : Leg) : g.nat j = g.dlen (t.d_Leg (List.replicate (g.nat j) z)) := by subst hg; subst ht; rw [dd_Leg]; simp [G.real]
theorem dset_Leg (l : List Leg) (i : Nat) (x : Leg) : g.dset (t.d_Leg l) i (Leg.ds t x) = t.d_Leg (l.set i x) := by subst hg; subst ht; rw [dd_Leg, dd_Leg]; simp [G.real, List.map_set]
theorem dsets_Leg {l : List Leg} {i : Nat} {x : Leg} (h : l[i]? = some x) : g.dset (t.d_Leg l) i (Leg.ds t x) = t.d_Leg l := by
  rw [dset_Leg hg ht]
  congr 1
  apply List.ext_getElem?
  intro j
  rw [List.getElem?_set]
  split
  · rename_i e
    subst e
    rw [h]
    split
    · rfl
    · rename_i hn
      rw [List.getElem?_eq_none (by omega)] at h
      cases h
  · rfl
theorem app_Leg {l m : List Leg} {n : Nat} {news : List (List D)} (h1 : n = (t.d_Leg l).length) (h2 : news = t.d_Leg m) : g.dapp (t.d_Leg l) n news = t.d_Leg (l ++ m) := by
  subst h1; subst h2; subst hg; subst ht; simp only [dd_Leg, G.real, List.map_append, List.take_length]
theorem appl_Leg {l m : List Leg} {n : Nat} {news : List (List D)} (h1 : n = (t.d_Leg l).length) (h2 : news = t.d_Leg m) : g.nadd n (g.dlen news) = g.dlen (t.d_Leg (l ++ m)) := by
  subst h1; subst h2; subst hg; subst ht; simp only [dd_Leg, G.real, List.map_append, List.length_append]
theorem app_ok_Leg {l m : List Leg} {n b : Nat} {news : List (List D)} (h1 : n = (t.d_Leg l).length) (h2 : news = t.d_Leg m) (h : (l.length + m.length) * b ≤ 70368744177664) (hb : 0 < b := by decide) : 0 = 0 ∧ n ≤ (t.d_Leg l).length ∧ n + news.length ≤ maxLen ∧ (n + news.length) * b ≤ 140737488355328 :=
  app_okG h1 (d_len_Leg ht l) (h2 ▸ d_len_Leg ht m) hb h
theorem appn_ok_Leg {m : List Leg} {b : Nat} {news : List (List D)} (h2 : news = t.d_Leg m) (h : m.length * b ≤ 70368744177664) (hb : 0 < b := by decide) : news.length ≤ maxLen ∧ news.length * b ≤ 140737488355328 :=
  appn_okG (h2 ▸ d_len_Leg ht m) hb h
theorem dsubw_Leg {m : List Leg} {n : Nat} (h : n = (t.d_Leg m).length) : g.dsub (t.d_Leg m) 0 n = t.d_Leg m := by subst h; subst hg; simp [G.real]
theorem rda_Leg (l : List Leg) : g.rda (t.d_Leg l) = t.r_Leg l := by subst hg; subst ht; exact rdr_Leg l
theorem litr_Leg (l : List Leg) : g.rda (List.map (Leg.ds t) l) = t.r_Leg l := by rw [lit_Leg hg ht]; exact rda_Leg hg ht l
theorem rd_Leg (l : List Leg) (lo n : Nat) : g.rd (t.d_Leg l) lo n = t.r_Leg (List.take n (List.drop lo l)) := by
  subst hg; subst ht
  rw [← rdr_Leg, dd_Leg, dd_Leg]
  simp [G.real]
theorem rdw_Leg {l : List Leg} {n : Nat} (h : n = (t.d_Leg l).length) : g.rd (t.d_Leg l) 0 n = t.r_Leg l := by rw [rd_Leg hg ht, h, d_len_Leg ht]; simp
theorem rsub_Leg (l : List Leg) (a b : Int) : g.rsub (t.r_Leg l) a b = t.r_Leg (List.drop (g.nat a) (List.take (g.nat b) l)) := by subst hg; subst ht; rw [rr_Leg, rr_Leg]; simp [G.real]
theorem ltL_true_Leg {l : List Leg} {i : Int} {k : Nat} (hi : i = ((k : Nat) : Int)) (hc : k < l.length) : g.lt i (g.llen (t.r_Leg l)) = true := by subst hg; simp [G.real, r_len_Leg ht]; omega
theorem ltL_false_Leg {l : List Leg} {i : Int} {k : Nat} (hi : i = ((k : Nat) : Int)) (hc : ¬ k < l.length) : g.lt i (g.llen (t.r_Leg l)) = false := by subst hg; simp [G.real, r_len_Leg ht]; omega
theorem stepL_Leg {l : List Leg} {i : Int} {k : Nat} (hi : i = ((k : Nat) : Int)) (hc : k < l.length) (hm : (t.r_Leg l).length ≤ maxLen) : g.wrap .i64 (g.add i 1) = ((k + 1 : Nat) : Int) := by
  subst hg; rw [r_len_Leg ht] at hm; unfold maxLen at hm; simp only [G.real]; rw [i64_in] <;> omega
@[simp] theorem llen_Leg (l : List Leg) : G.real.llen (TE.real.r_Leg l) = (l.length : Int) := by rw [rr_Leg]; simp [G.real]
@[simp] theorem dlenx_Leg (l : List Leg) : G.real.dlen (TE.real.d_Leg l) = l.length := by rw [dd_Leg]; simp [G.real]
@[simp] theorem rlenx_Leg (l : List Leg) : (TE.real.r_Leg l).length = l.length := by rw [rr_Leg]; simp
theorem dsub_Leg (m : List Leg) (lo n : Nat) : g.dsub (t.d_Leg m) lo n = t.d_Leg (List.take n (List.drop lo m)) := by subst hg; subst ht; rw [dd_Leg, dd_Leg]; simp [G.real]
theorem subp_ok_Leg {m : List Leg} {lo n : Nat} (h : lo + n ≤ m.length) : lo + n ≤ (t.d_Leg m).length ∧ flatDs (((t.d_Leg m).drop lo).take n) = true := by
  subst ht; refine ⟨by rw [d_len_Leg rfl]; exact h, ?_⟩
  rw [dd_Leg, ← List.map_drop, ← List.map_take]; exact flat_of flx_Leg _
theorem up_Leg (m : List Leg) : g.up (t.r_Leg m) = t.d_Leg m := by subst hg; subst ht; rw [rr_Leg, dd_Leg]; simp [G.real, Leg.rs, Leg.ds]
theorem subw_ok_Leg {m : List Leg} {n : Nat} (h : n = (t.d_Leg m).length) : 0 + n ≤ (t.d_Leg m).length ∧ flatDs (((t.d_Leg m).drop 0).take n) = true := by
  subst h; subst ht; refine ⟨by omega, ?_⟩
  simp only [List.drop_zero, List.take_length, dd_Leg]; exact flat_of flx_Leg m
end
theorem flx_I64 (x : Int) : flatD (I64.ds TE.real x) = true := rfl
theorem rr_I64 (l : List Int) : TE.real.r_I64 l = l.map (I64.rs TE.real) := rfl
theorem dd_I64 (l : List Int) : TE.real.d_I64 l = l.map (I64.ds TE.real) := rfl
theorem rdx_I64 (x : Int) : toRds (I64.ds TE.real x) = I64.rs TE.real x := by simp [I64.ds, I64.rs, toRds, toRd]
theorem frx_I64 (x : Int) : freshDs (I64.ds TE.real x) = true := by simp [I64.ds, freshDs, freshD]
theorem rdr_I64 (l : List Int) : toRdss (TE.real.d_I64 l) = TE.real.r_I64 l := by rw [dd_I64, rr_I64]; exact toRdss_of rdx_I64 l
theorem frr_I64 (l : List Int) : freshDss (TE.real.d_I64 l) = true := by rw [dd_I64]; exact fresh_of frx_I64 l
section
variable {g : G} {t : TE} (hg : g = G.real) (ht : t = TE.real)
include ht
theorem r_len_I64 (l : List Int) : (t.r_I64 l).length = l.length := by subst ht; rw [rr_I64]; simp
theorem d_len_I64 (l : List Int) : (t.d_I64 l).length = l.length := by subst ht; rw [dd_I64]; simp
theorem d_nil_I64 : t.d_I64 [] = [] := by subst ht; rfl
theorem r_nil_I64 : t.r_I64 [] = [] := by subst ht; rfl
theorem d_cons_I64 (x : Int) (l : List Int) : t.d_I64 (x :: l) = I64.ds t x :: t.d_I64 l := by subst ht; rfl
theorem dsetl_I64 (l : List Int) (i : Nat) (x : Int) : (t.d_I64 (l.set i x)).length = (t.d_I64 l).length := by subst ht; rw [dd_I64, dd_I64]; simp
theorem lenp_I64 {l l2 : List Int} {n : Nat} (h : n = (t.d_I64 l).length) (h2 : l2.length = l.length) : n = (t.d_I64 l2).length := by rw [h, d_len_I64 ht, d_len_I64 ht, h2]
theorem fresh_I64 (l : List Int) : freshDss (t.d_I64 l) = true := by subst ht; exact frr_I64 l
theorem lend_I64 {l : List Int} {n : Nat} (h : n = (t.d_I64 l).length) : 0 + n ≤ (t.d_I64 l).length := by omega
theorem lendp_I64 {l : List Int} {lo n : Nat} (h : lo + n ≤ l.length) : lo + n ≤ (t.d_I64 l).length := by rw [d_len_I64 ht]; exact h
include hg
theorem r_get_I64 {l : List Int} {i : Nat} {x : Int} (h : l[i]? = some x) : (t.r_I64 l)[i]? = some (I64.rs t x) := by subst ht; rw [rr_I64]; exact map_get _ h
theorem d_get_I64 {l : List Int} {i : Nat} {x : Int} (h : l[i]? = some x) : (t.d_I64 l)[i]? = some (I64.ds t x) := by subst ht; rw [dd_I64]; exact map_get _ h
theorem r_getL_I64 {l : List Int} {i : Int} {k : Nat} {x : Int} (hi : i = ((k : Nat) : Int)) (h : l[k]? = some x) : (t.r_I64 l)[g.nat i]? = some (I64.rs t x) := by
  subst hg; subst hi; exact r_get_I64 rfl ht (by simpa [G.real] using h)
theorem lit_I64 (l : List Int) : List.map (I64.ds t) l = t.d_I64 l := by subst ht; rfl
theorem litn_I64 (l : List Int) : l.length = g.dlen (t.d_I64 l) := by subst hg; subst ht; rw [dd_I64]; simp [G.real]
theorem dlen_I64 (l : List Int) : g.dlen (t.d_I64 l) = (t.d_I64 l).length := by subst hg; rfl
theorem dlen_nil_I64 : g.dlen (t.d_I64 []) = 0 := by subst hg; subst ht; rfl
theorem drep_I64 (j : Int) (z : Int) : g.drep j (I64.ds t z) = t.d_I64 (List.replicate (g.nat j) z) := by subst hg; subst ht; rw [dd_I64]; simp [G.real]
theorem drepn_I64 (j : Int) (z : Int) : g.nat j = g.dlen (t.d_I64 (List.replicate (g.nat j) z)) := by subst hg; subst ht; rw [dd_I64]; simp [G.real]
theorem dset_I64 (l : List Int) (i : Nat) (x : Int) : g.dset (t.d_I64 l) i (I64.ds t x) = t.d_I64 (l.set i x) := by subst hg; subst ht; rw [dd_I64, dd_I64]; simp [G.real, List.map_set]
theorem dsets_I64 {l : List Int} {i : Nat} {x : Int} (h : l[i]? = some x) : g.dset (t.d_I64 l) i (I64.ds t x) = t.d_I64 l := by
  rw [dset_I64 hg ht]
  congr 1
  apply List.ext_getElem?
  intro j
  rw [List.getElem?_set]
  split
  · rename_i e
    subst e
    rw [h]
    split
    · rfl
    · rename_i hn
      rw [List.getElem?_eq_none (by omega)] at h
      cases h
  · rfl
theorem app_I64 {l m : List Int} {n : Nat} {news : List (List D)} (h1 : n = (t.d_I64 l).length) (h2 : news = t.d_I64 m) : g.dapp (t.d_I64 l) n news = t.d_I64 (l ++ m) := by
  subst h1; subst h2; subst hg; subst ht; simp only [dd_I64, G.real, List.map_append, List.take_length]
theorem appl_I64 {l m : List Int} {n : Nat} {news : List (List D)} (h1 : n = (t.d_I64 l).length) (h2 : news = t.d_I64 m) : g.nadd n (g.dlen news) = g.dlen (t.d_I64 (l ++ m)) := by
  subst h1; subst h2; subst hg; subst ht; simp only [dd_I64, G.real, List.map_append, List.length_append]
theorem app_ok_I64 {l m : List Int} {n b : Nat} {news : List (List D)} (h1 : n = (t.d_I64 l).length) (h2 : news = t.d_I64 m) (h : (l.length + m.length) * b ≤ 70368744177664) (hb : 0 < b := by decide) : 0 = 0 ∧ n ≤ (t.d_I64 l).length ∧ n + news.length ≤ maxLen ∧ (n + news.length) * b ≤ 140737488355328 :=
  app_okG h1 (d_len_I64 ht l) (h2 ▸ d_len_I64 ht m) hb h
theorem appn_ok_I64 {m : List Int} {b : Nat} {news : List (List D)} (h2 : news = t.d_I64 m) (h : m.length * b ≤ 70368744177664) (hb : 0 < b := by decide) : news.length ≤ maxLen ∧ news.length * b ≤ 140737488355328 :=
  appn_okG (h2 ▸ d_len_I64 ht m) hb h
theorem dsubw_I64 {m : List Int} {n : Nat} (h : n = (t.d_I64 m).length) : g.dsub (t.d_I64 m) 0 n = t.d_I64 m := by subst h; subst hg; simp [G.real]
theorem rda_I64 (l : List Int) : g.rda (t.d_I64 l) = t.r_I64 l := by subst hg; subst ht; exact rdr_I64 l
theorem litr_I64 (l : List Int) : g.rda (List.map (I64.ds t) l) = t.r_I64 l := by rw [lit_I64 hg ht]; exact rda_I64 hg ht l
theorem rd_I64 (l : List Int) (lo n : Nat) : g.rd (t.d_I64 l) lo n = t.r_I64 (List.take n (List.drop lo l)) := by
  subst hg; subst ht
  rw [← rdr_I64, dd_I64, dd_I64]
  simp [G.real]
theorem rdw_I64 {l : List Int} {n : Nat} (h : n = (t.d_I64 l).length) : g.rd (t.d_I64 l) 0 n = t.r_I64 l := by rw [rd_I64 hg ht, h, d_len_I64 ht]; simp
theorem rsub_I64 (l : List Int) (a b : Int) : g.rsub (t.r_I64 l) a b = t.r_I64 (List.drop (g.nat a) (List.take (g.nat b) l)) := by subst hg; subst ht; rw [rr_I64, rr_I64]; simp [G.real]
theorem ltL_true_I64 {l : List Int} {i : Int} {k : Nat} (hi : i = ((k : Nat) : Int)) (hc : k < l.length) : g.lt i (g.llen (t.r_I64 l)) = true := by subst hg; simp [G.real, r_len_I64 ht]; omega
theorem ltL_false_I64 {l : List Int} {i : Int} {k : Nat} (hi : i = ((k : Nat) : Int)) (hc : ¬ k < l.length) : g.lt i (g.llen (t.r_I64 l)) = false := by subst hg; simp [G.real, r_len_I64 ht]; omega
theorem stepL_I64 {l : List Int} {i : Int} {k : Nat} (hi : i = ((k : Nat) : Int)) (hc : k < l.length) (hm : (t.r_I64 l).length ≤ maxLen) : g.wrap .i64 (g.add i 1) = ((k + 1 : Nat) : Int) := by
  subst hg; rw [r_len_I64 ht] at hm; unfold maxLen at hm; simp only [G.real]; rw [i64_in] <;> omega
@[simp] theorem llen_I64 (l : List Int) : G.real.llen (TE.real.r_I64 l) = (l.length : Int) := by rw [rr_I64]; simp [G.real]
@[simp] theorem dlenx_I64 (l : List Int) : G.real.dlen (TE.real.d_I64 l) = l.length := by rw [dd_I64]; simp [G.real]
@[simp] theorem rlenx_I64 (l : List Int) : (TE.real.r_I64 l).length = l.length := by rw [rr_I64]; simp
theorem dsub_I64 (m : List Int) (lo n : Nat) : g.dsub (t.d_I64 m) lo n = t.d_I64 (List.take n (List.drop lo m)) := by subst hg; subst ht; rw [dd_I64, dd_I64]; simp [G.real]
theorem subp_ok_I64 {m : List Int} {lo n : Nat} (h : lo + n ≤ m.length) : lo + n ≤ (t.d_I64 m).length ∧ flatDs (((t.d_I64 m).drop lo).take n) = true := by
  subst ht; refine ⟨by rw [d_len_I64 rfl]; exact h, ?_⟩
  rw [dd_I64, ← List.map_drop, ← List.map_take]; exact flat_of flx_I64 _
theorem up_I64 (m : List Int) : g.up (t.r_I64 m) = t.d_I64 m := by subst hg; subst ht; rw [rr_I64, dd_I64]; simp [G.real, I64.rs, I64.ds]
theorem subw_ok_I64 {m : List Int} {n : Nat} (h : n = (t.d_I64 m).length) : 0 + n ≤ (t.d_I64 m).length ∧ flatDs (((t.d_I64 m).drop 0).take n) = true := by
  subst h; subst ht; refine ⟨by omega, ?_⟩
  simp only [List.drop_zero, List.take_length, dd_I64]; exact flat_of flx_I64 m
end
theorem flx_S (x : ByteArray) : flatD (S.ds TE.real x) = true := rfl
theorem rr_S (l : List ByteArray) : TE.real.r_S l = l.map (S.rs TE.real) := rfl
theorem dd_S (l : List ByteArray) : TE.real.d_S l = l.map (S.ds TE.real) := rfl
theorem rdx_S (x : ByteArray) : toRds (S.ds TE.real x) = S.rs TE.real x := by simp [S.ds, S.rs, toRds, toRd]
theorem frx_S (x : ByteArray) : freshDs (S.ds TE.real x) = true := by simp [S.ds, freshDs, freshD]
theorem rdr_S (l : List ByteArray) : toRdss (TE.real.d_S l) = TE.real.r_S l := by rw [dd_S, rr_S]; exact toRdss_of rdx_S l
theorem frr_S (l : List ByteArray) : freshDss (TE.real.d_S l) = true := by rw [dd_S]; exact fresh_of frx_S l
section
variable {g : G} {t : TE} (hg : g = G.real) (ht : t = TE.real)
include ht
theorem r_len_S (l : List ByteArray) : (t.r_S l).length = l.length := by subst ht; rw [rr_S]; simp
theorem d_len_S (l : List ByteArray) : (t.d_S l).length = l.length := by subst ht; rw [dd_S]; simp
theorem d_nil_S : t.d_S [] = [] := by subst ht; rfl
theorem r_nil_S : t.r_S [] = [] := by subst ht; rfl
theorem d_cons_S (x : ByteArray) (l : List ByteArray) : t.d_S (x :: l) = S.ds t x :: t.d_S l := by subst ht; rfl
theorem dsetl_S (l : List ByteArray) (i : Nat) (x : ByteArray) : (t.d_S (l.set i x)).length = (t.d_S l).length := by subst ht; rw [dd_S, dd_S]; simp
theorem lenp_S {l l2 : List ByteArray} {n : Nat} (h : n = (t.d_S l).length) (h2 : l2.length = l.length) : n = (t.d_S l2).length := by rw [h, d_len_S ht, d_len_S ht, h2]
theorem fresh_S (l : List ByteArray) : freshDss (t.d_S l) = true := by subst ht; exact frr_S l
theorem lend_S {l : List ByteArray} {n : Nat} (h : n = (t.d_S l).length) : 0 + n ≤ (t.d_S l).length := by omega
theorem lendp_S {l : List ByteArray} {lo n : Nat} (h : lo + n ≤ l.length) : lo + n ≤ (t.d_S l).length := by rw [d_len_S ht]; exact h
include hg
theorem r_get_S {l : List ByteArray} {i : Nat} {x : ByteArray} (h : l[i]? = some x) : (t.r_S l)[i]? = some (S.rs t x) := by subst ht; rw [rr_S]; exact map_get _ h
theorem d_get_S {l : List ByteArray} {i : Nat} {x : ByteArray} (h : l[i]? = some x) : (t.d_S l)[i]? = some (S.ds t x) := by subst ht; rw [dd_S]; exact map_get _ h
theorem r_getL_S {l : List ByteArray} {i : Int} {k : Nat} {x : ByteArray} (hi : i = ((k : Nat) : Int)) (h : l[k]? = some x) : (t.r_S l)[g.nat i]? = some (S.rs t x) := by
  subst hg; subst hi; exact r_get_S rfl ht (by simpa [G.real] using h)
theorem lit_S (l : List ByteArray) : List.map (S.ds t) l = t.d_S l := by subst ht; rfl
theorem litn_S (l : List ByteArray) : l.length = g.dlen (t.d_S l) := by subst hg; subst ht; rw [dd_S]; simp [G.real]
theorem dlen_S (l : List ByteArray) : g.dlen (t.d_S l) = (t.d_S l).length := by subst hg; rfl
theorem dlen_nil_S : g.dlen (t.d_S []) = 0 := by subst hg; subst ht; rfl
theorem drep_S (j : Int) (z : ByteArray) : g.drep j (S.ds t z) = t.d_S (List.replicate (g.nat j) z) := by subst hg; subst ht; rw [dd_S]; simp [G.real]
theorem drepn_S (j : Int) (z : ByteArray) : g.nat j = g.dlen (t.d_S (List.replicate (g.nat j) z)) := by subst hg; subst ht; rw [dd_S]; simp [G.real]
theorem dset_S (l : List ByteArray) (i : Nat) (x : ByteArray) : g.dset (t.d_S l) i (S.ds t x) = t.d_S (l.set i x) := by subst hg; subst ht; rw [dd_S, dd_S]; simp [G.real, List.map_set]
theorem dsets_S {l : List ByteArray} {i : Nat} {x : ByteArray} (h : l[i]? = some x) : g.dset (t.d_S l) i (S.ds t x) = t.d_S l := by
  rw [dset_S hg ht]
  congr 1
  apply List.ext_getElem?
  intro j
  rw [List.getElem?_set]
  split
  · rename_i e
    subst e
    rw [h]
    split
    · rfl
    · rename_i hn
      rw [List.getElem?_eq_none (by omega)] at h
      cases h
  · rfl
theorem app_S {l m : List ByteArray} {n : Nat} {news : List (List D)} (h1 : n = (t.d_S l).length) (h2 : news = t.d_S m) : g.dapp (t.d_S l) n news = t.d_S (l ++ m) := by
  subst h1; subst h2; subst hg; subst ht; simp only [dd_S, G.real, List.map_append, List.take_length]
theorem appl_S {l m : List ByteArray} {n : Nat} {news : List (List D)} (h1 : n = (t.d_S l).length) (h2 : news = t.d_S m) : g.nadd n (g.dlen news) = g.dlen (t.d_S (l ++ m)) := by
  subst h1; subst h2; subst hg; subst ht; simp only [dd_S, G.real, List.map_append, List.length_append]
theorem app_ok_S {l m : List ByteArray} {n b : Nat} {news : List (List D)} (h1 : n = (t.d_S l).length) (h2 : news = t.d_S m) (h : (l.length + m.length) * b ≤ 70368744177664) (hb : 0 < b := by decide) : 0 = 0 ∧ n ≤ (t.d_S l).length ∧ n + news.length ≤ maxLen ∧ (n + news.length) * b ≤ 140737488355328 :=
  app_okG h1 (d_len_S ht l) (h2 ▸ d_len_S ht m) hb h
theorem appn_ok_S {m : List ByteArray} {b : Nat} {news : List (List D)} (h2 : news = t.d_S m) (h : m.length * b ≤ 70368744177664) (hb : 0 < b := by decide) : news.length ≤ maxLen ∧ news.length * b ≤ 140737488355328 :=
  appn_okG (h2 ▸ d_len_S ht m) hb h
theorem dsubw_S {m : List ByteArray} {n : Nat} (h : n = (t.d_S m).length) : g.dsub (t.d_S m) 0 n = t.d_S m := by subst h; subst hg; simp [G.real]
theorem rda_S (l : List ByteArray) : g.rda (t.d_S l) = t.r_S l := by subst hg; subst ht; exact rdr_S l
theorem litr_S (l : List ByteArray) : g.rda (List.map (S.ds t) l) = t.r_S l := by rw [lit_S hg ht]; exact rda_S hg ht l
theorem rd_S (l : List ByteArray) (lo n : Nat) : g.rd (t.d_S l) lo n = t.r_S (List.take n (List.drop lo l)) := by
  subst hg; subst ht
  rw [← rdr_S, dd_S, dd_S]
  simp [G.real]
theorem rdw_S {l : List ByteArray} {n : Nat} (h : n = (t.d_S l).length) : g.rd (t.d_S l) 0 n = t.r_S l := by rw [rd_S hg ht, h, d_len_S ht]; simp
theorem rsub_S (l : List ByteArray) (a b : Int) : g.rsub (t.r_S l) a b = t.r_S (List.drop (g.nat a) (List.take (g.nat b) l)) := by subst hg; subst ht; rw [rr_S, rr_S]; simp [G.real]
theorem ltL_true_S {l : List ByteArray} {i : Int} {k : Nat} (hi : i = ((k : Nat) : Int)) (hc : k < l.length) : g.lt i (g.llen (t.r_S l)) = true := by subst hg; simp [G.real, r_len_S ht]; omega
theorem ltL_false_S {l : List ByteArray} {i : Int} {k : Nat} (hi : i = ((k : Nat) : Int)) (hc : ¬ k < l.length) : g.lt i (g.llen (t.r_S l)) = false := by subst hg; simp [G.real, r_len_S ht]; omega
theorem stepL_S {l : List ByteArray} {i : Int} {k : Nat} (hi : i = ((k : Nat) : Int)) (hc : k < l.length) (hm : (t.r_S l).length ≤ maxLen) : g.wrap .i64 (g.add i 1) = ((k + 1 : Nat) : Int) := by
  subst hg; rw [r_len_S ht] at hm; unfold maxLen at hm; simp only [G.real]; rw [i64_in] <;> omega
@[simp] theorem llen_S (l : List ByteArray) : G.real.llen (TE.real.r_S l) = (l.length : Int) := by rw [rr_S]; simp [G.real]
@[simp] theorem dlenx_S (l : List ByteArray) : G.real.dlen (TE.real.d_S l) = l.length := by rw [dd_S]; simp [G.real]
@[simp] theorem rlenx_S (l : List ByteArray) : (TE.real.r_S l).length = l.length := by rw [rr_S]; simp
theorem dsub_S (m : List ByteArray) (lo n : Nat) : g.dsub (t.d_S m) lo n = t.d_S (List.take n (List.drop lo m)) := by subst hg; subst ht; rw [dd_S, dd_S]; simp [G.real]
theorem subp_ok_S {m : List ByteArray} {lo n : Nat} (h : lo + n ≤ m.length) : lo + n ≤ (t.d_S m).length ∧ flatDs (((t.d_S m).drop lo).take n) = true := by
  subst ht; refine ⟨by rw [d_len_S rfl]; exact h, ?_⟩
  rw [dd_S, ← List.map_drop, ← List.map_take]; exact flat_of flx_S _
theorem up_S (m : List ByteArray) : g.up (t.r_S m) = t.d_S m := by subst hg; subst ht; rw [rr_S, dd_S]; simp [G.real, S.rs, S.ds]
theorem subw_ok_S {m : List ByteArray} {n : Nat} (h : n = (t.d_S m).length) : 0 + n ≤ (t.d_S m).length ∧ flatDs (((t.d_S m).drop 0).take n) = true := by
  subst h; subst ht; refine ⟨by omega, ?_⟩
  simp only [List.drop_zero, List.take_length, dd_S]; exact flat_of flx_S m
end
end Go.Vs
