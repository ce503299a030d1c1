/- Part of the proofs of this seat's laws: Ty. No condition. -/
import Derived.Test.YtilplaaijbpilaaVf
set_option linter.unusedVariables false
set_option linter.unusedSimpArgs false
set_option linter.unusedSectionVars false
namespace Go.Vs
open Go.IntWalk
set_option linter.unusedVariables false
set_option linter.unusedSimpArgs false
set_option linter.unusedSectionVars false
structure Leg where
  From : ByteArray
  To : ByteArray
  Start : Int
  Takes : Int
  Days : Int
  Room : Int
structure Network where
  Legs : List Leg
  Off : List Int
  Change : Int
structure Trip where
  Leg : Int
  Day : Int
structure Scan where
  Thing : Int
  At : Int
  Kind : Int
  Place : ByteArray
  Trip : Trip
structure Booking where
  Thing : Int
  Trip : Trip
  Weight : Int
structure Spot where
  Place : ByteArray
  At : Int
def rLeg (l : List Leg) : List (List R) := l.map fun x => [.v (.string x.From), .v (.string x.To), .v (.int .i64 x.Start), .v (.int .i64 x.Takes), .v (.int .i64 x.Days), .v (.int .i64 x.Room)]
def dLeg (l : List Leg) : List (List D) := l.map fun x => [.r (.v (.string x.From)), .r (.v (.string x.To)), .r (.v (.int .i64 x.Start)), .r (.v (.int .i64 x.Takes)), .r (.v (.int .i64 x.Days)), .r (.v (.int .i64 x.Room))]
def rI64 (l : List Int) : List (List R) := l.map fun x => [.v (.int .i64 x)]
def dI64 (l : List Int) : List (List D) := l.map fun x => [.r (.v (.int .i64 x))]
def rBooking (l : List Booking) : List (List R) := l.map fun x => [.v (.int .i64 x.Thing), .v (.int .i64 x.Trip.Leg), .v (.int .i64 x.Trip.Day), .v (.int .i64 x.Weight)]
def dBooking (l : List Booking) : List (List D) := l.map fun x => [.r (.v (.int .i64 x.Thing)), .r (.v (.int .i64 x.Trip.Leg)), .r (.v (.int .i64 x.Trip.Day)), .r (.v (.int .i64 x.Weight))]
def rTrip (l : List Trip) : List (List R) := l.map fun x => [.v (.int .i64 x.Leg), .v (.int .i64 x.Day)]
def dTrip (l : List Trip) : List (List D) := l.map fun x => [.r (.v (.int .i64 x.Leg)), .r (.v (.int .i64 x.Day))]
def rS (l : List ByteArray) : List (List R) := l.map fun x => [.v (.string x)]
def dS (l : List ByteArray) : List (List D) := l.map fun x => [.r (.v (.string x))]
def rLI64 (l : List (List Int)) : List (List R) := l.map fun x => [.s 1 (rI64 x)]
def dLI64 (l : List (List Int)) : List (List D) := l.map fun x => [.o 1 (dI64 x)]
def rU8 (l : List Int) : List (List R) := l.map fun x => [.v (.int .u8 x)]
def dU8 (l : List Int) : List (List D) := l.map fun x => [.r (.v (.int .u8 x))]
inductive Fd where
  | I_freeOf_1 (a0 : Network) (a1 : List Trip) (a2 : List Booking) (a3 : Int)
  | I_nextOf_1 (a0 : Network)
def rFd : Fd → R
  | .I_freeOf_1 a0 a1 a2 a3 => .fn 92 [[.s 6 (rLeg a0.Legs), .s 1 (rI64 a0.Off), .v (.int .i64 a0.Change)], [.s 2 (rTrip a1)], [.s 4 (rBooking a2)], [.v (.int .i64 a3)]]
  | .I_nextOf_1 a0 => .fn 116 [[.s 6 (rLeg a0.Legs), .s 1 (rI64 a0.Off), .v (.int .i64 a0.Change)]]
structure TE where
  r_Leg : List Leg → List (List R)
  d_Leg : List Leg → List (List D)
  r_I64 : List Int → List (List R)
  d_I64 : List Int → List (List D)
  r_Booking : List Booking → List (List R)
  d_Booking : List Booking → List (List D)
  r_Trip : List Trip → List (List R)
  d_Trip : List Trip → List (List D)
  r_S : List ByteArray → List (List R)
  d_S : List ByteArray → List (List D)
  r_LI64 : List (List Int) → List (List R)
  d_LI64 : List (List Int) → List (List D)
  r_U8 : List Int → List (List R)
  d_U8 : List Int → List (List D)
  r_Fd : Fd → R
def TE.real : TE := ⟨rLeg, dLeg, rI64, dI64, rBooking, dBooking, rTrip, dTrip, rS, dS, rLI64, dLI64, rU8, dU8, rFd⟩
theorem fdc_I_freeOf_1 {t : TE} (ht : t = TE.real) (a0 : Network) (a1 : List Trip) (a2 : List Booking) (a3 : Int) : R.fn 92 [[.s 6 (t.r_Leg a0.Legs), .s 1 (t.r_I64 a0.Off), .v (.int .i64 a0.Change)], [.s 2 (t.r_Trip a1)], [.s 4 (t.r_Booking a2)], [.v (.int .i64 a3)]] = t.r_Fd (.I_freeOf_1 a0 a1 a2 a3) := by subst ht; rfl
theorem fdc_I_nextOf_1 {t : TE} (ht : t = TE.real) (a0 : Network) : R.fn 116 [[.s 6 (t.r_Leg a0.Legs), .s 1 (t.r_I64 a0.Off), .v (.int .i64 a0.Change)]] = t.r_Fd (.I_nextOf_1 a0) := by subst ht; rfl
def Leg.rs (t : TE) (x : Leg) : List R := [.v (.string x.From), .v (.string x.To), .v (.int .i64 x.Start), .v (.int .i64 x.Takes), .v (.int .i64 x.Days), .v (.int .i64 x.Room)]
def Leg.ds (t : TE) (x : Leg) : List D := [.r (.v (.string x.From)), .r (.v (.string x.To)), .r (.v (.int .i64 x.Start)), .r (.v (.int .i64 x.Takes)), .r (.v (.int .i64 x.Days)), .r (.v (.int .i64 x.Room))]
def Network.rs (t : TE) (x : Network) : List R := [.s 6 (t.r_Leg x.Legs), .s 1 (t.r_I64 x.Off), .v (.int .i64 x.Change)]
def Network.ds (t : TE) (x : Network) : List D := [.o 6 (t.d_Leg x.Legs), .o 1 (t.d_I64 x.Off), .r (.v (.int .i64 x.Change))]
def Trip.rs (t : TE) (x : Trip) : List R := [.v (.int .i64 x.Leg), .v (.int .i64 x.Day)]
def Trip.ds (t : TE) (x : Trip) : List D := [.r (.v (.int .i64 x.Leg)), .r (.v (.int .i64 x.Day))]
def Scan.rs (t : TE) (x : Scan) : List R := [.v (.int .i64 x.Thing), .v (.int .i64 x.At), .v (.int .i64 x.Kind), .v (.string x.Place), .v (.int .i64 x.Trip.Leg), .v (.int .i64 x.Trip.Day)]
def Scan.ds (t : TE) (x : Scan) : List D := [.r (.v (.int .i64 x.Thing)), .r (.v (.int .i64 x.At)), .r (.v (.int .i64 x.Kind)), .r (.v (.string x.Place)), .r (.v (.int .i64 x.Trip.Leg)), .r (.v (.int .i64 x.Trip.Day))]
def Booking.rs (t : TE) (x : Booking) : List R := [.v (.int .i64 x.Thing), .v (.int .i64 x.Trip.Leg), .v (.int .i64 x.Trip.Day), .v (.int .i64 x.Weight)]
def Booking.ds (t : TE) (x : Booking) : List D := [.r (.v (.int .i64 x.Thing)), .r (.v (.int .i64 x.Trip.Leg)), .r (.v (.int .i64 x.Trip.Day)), .r (.v (.int .i64 x.Weight))]
def Spot.rs (t : TE) (x : Spot) : List R := [.v (.string x.Place), .v (.int .i64 x.At)]
def Spot.ds (t : TE) (x : Spot) : List D := [.r (.v (.string x.Place)), .r (.v (.int .i64 x.At))]
def I64.rs (t : TE) (x : Int) : List R := [.v (.int .i64 x)]
def I64.ds (t : TE) (x : Int) : List D := [.r (.v (.int .i64 x))]
def S.rs (t : TE) (x : ByteArray) : List R := [.v (.string x)]
def S.ds (t : TE) (x : ByteArray) : List D := [.r (.v (.string x))]
def LI64.rs (t : TE) (x : List Int) : List R := [.s 1 (t.r_I64 x)]
def LI64.ds (t : TE) (x : List Int) : List D := [.o 1 (t.d_I64 x)]
def U8.rs (t : TE) (x : Int) : List R := [.v (.int .u8 x)]
def U8.ds (t : TE) (x : Int) : List D := [.r (.v (.int .u8 x))]
theorem map_get {α β : Type} (f : α → β) {l : List α} {i : Nat} {x : α} (h : l[i]? = some x) : (l.map f)[i]? = some (f x) := by rw [List.getElem?_map, h]; rfl
theorem toRdss_of {α : Type} {f : α → List D} {q : α → List R} (h : ∀ x, toRds (f x) = q x) (l : List α) : toRdss (l.map f) = l.map q := by
  induction l with
  | nil => rfl
  | cons x l ih => simp only [List.map_cons, toRdss, h, ih]
theorem fresh_of {α : Type} {f : α → List D} (h : ∀ x, freshDs (f x) = true) (l : List α) : freshDss (l.map f) = true := by
  induction l with
  | nil => rfl
  | cons x l ih => simp only [List.map_cons, freshDss, h, ih, Bool.and_self]
theorem flat_of {α : Type} {f : α → List D} (h : ∀ x, flatD (f x) = true) (l : List α) : flatDs (l.map f) = true := by
  induction l with
  | nil => rfl
  | cons x l ih => simp only [List.map_cons, flatDs, h, ih, Bool.and_self]
theorem bsr_U8 {t : TE} (ht : t = TE.real) (l : List Int) : bsR (t.r_U8 l) = some l := by
  subst ht
  induction l with
  | nil => rfl
  | cons x l ih =>
    have e : TE.real.r_U8 (x :: l) = [.v (.int .u8 x)] :: TE.real.r_U8 l := rfl
    rw [e, bsR, ih]
    rfl
theorem rr_Leg (l : List Leg) : TE.real.r_Leg l = l.map (Leg.rs TE.real) := rfl
theorem dd_Leg (l : List Leg) : TE.real.d_Leg l = l.map (Leg.ds TE.real) := rfl
theorem rdx_Leg (x : Leg) : toRds (Leg.ds TE.real x) = Leg.rs TE.real x := by simp [Leg.ds, Leg.rs, toRds, toRd]
theorem rdr_Leg (l : List Leg) : toRdss (TE.real.d_Leg l) = TE.real.r_Leg l := by rw [dd_Leg, rr_Leg]; exact toRdss_of rdx_Leg l
section
variable {g : G} {t : TE} (hg : g = G.real) (ht : t = TE.real)
include ht
theorem r_len_Leg (l : List Leg) : (t.r_Leg l).length = l.length := by subst ht; rw [rr_Leg]; simp
theorem d_len_Leg (l : List Leg) : (t.d_Leg l).length = l.length := by subst ht; rw [dd_Leg]; simp
theorem d_nil_Leg : t.d_Leg [] = [] := by subst ht; rfl
theorem dsetl_Leg (l : List Leg) (i : Nat) (x : Leg) : (t.d_Leg (l.set i x)).length = (t.d_Leg l).length := by subst ht; rw [dd_Leg, dd_Leg]; simp
theorem lenp_Leg {l l2 : List Leg} {n : Nat} (h : n = (t.d_Leg l).length) (h2 : l2.length = l.length) : n = (t.d_Leg l2).length := by rw [h, d_len_Leg ht, d_len_Leg ht, h2]
theorem lend_Leg {l : List Leg} {n : Nat} (h : n = (t.d_Leg l).length) : 0 + n ≤ (t.d_Leg l).length := by omega
include hg
theorem r_get_Leg {l : List Leg} {i : Nat} {x : Leg} (h : l[i]? = some x) : (t.r_Leg l)[i]? = some (Leg.rs t x) := by subst ht; rw [rr_Leg]; exact map_get _ h
theorem d_get_Leg {l : List Leg} {i : Nat} {x : Leg} (h : l[i]? = some x) : (t.d_Leg l)[i]? = some (Leg.ds t x) := by subst ht; rw [dd_Leg]; exact map_get _ h
theorem r_getL_Leg {l : List Leg} {i : Int} {k : Nat} {x : Leg} (hi : i = ((k : Nat) : Int)) (h : l[k]? = some x) : (t.r_Leg l)[g.nat i]? = some (Leg.rs t x) := by
  subst hg; subst hi; exact r_get_Leg rfl ht (by simpa [G.real] using h)
theorem dlen_Leg (l : List Leg) : g.dlen (t.d_Leg l) = (t.d_Leg l).length := by subst hg; rfl
theorem drep_Leg (j : Int) (z : Leg) : g.drep j (Leg.ds t z) = t.d_Leg (List.replicate (g.nat j) z) := by subst hg; subst ht; rw [dd_Leg]; simp [G.real]
theorem drepn_Leg (j : Int) (z : Leg) : g.nat j = g.dlen (t.d_Leg (List.replicate (g.nat j) z)) := by subst hg; subst ht; rw [dd_Leg]; simp [G.real]
theorem dset_Leg (l : List Leg) (i : Nat) (x : Leg) : g.dset (t.d_Leg l) i (Leg.ds t x) = t.d_Leg (l.set i x) := by subst hg; subst ht; rw [dd_Leg, dd_Leg]; simp [G.real, List.map_set]
theorem rda_Leg (l : List Leg) : g.rda (t.d_Leg l) = t.r_Leg l := by subst hg; subst ht; exact rdr_Leg l
theorem rd_Leg (l : List Leg) (lo n : Nat) : g.rd (t.d_Leg l) lo n = t.r_Leg (List.take n (List.drop lo l)) := by
  subst hg; subst ht
  rw [← rdr_Leg, dd_Leg, dd_Leg]
  simp [G.real]
theorem rdw_Leg {l : List Leg} {n : Nat} (h : n = (t.d_Leg l).length) : g.rd (t.d_Leg l) 0 n = t.r_Leg l := by rw [rd_Leg hg ht, h, d_len_Leg ht]; simp
theorem ltL_true_Leg {l : List Leg} {i : Int} {k : Nat} (hi : i = ((k : Nat) : Int)) (hc : k < l.length) : g.lt i (g.llen (t.r_Leg l)) = true := by subst hg; simp [G.real, r_len_Leg ht]; omega
theorem ltL_false_Leg {l : List Leg} {i : Int} {k : Nat} (hi : i = ((k : Nat) : Int)) (hc : ¬ k < l.length) : g.lt i (g.llen (t.r_Leg l)) = false := by subst hg; simp [G.real, r_len_Leg ht]; omega
theorem stepL_Leg {l : List Leg} {i : Int} {k : Nat} (hi : i = ((k : Nat) : Int)) (hc : k < l.length) (hm : (t.r_Leg l).length ≤ maxLen) : g.wrap .i64 (g.add i 1) = ((k + 1 : Nat) : Int) := by
  subst hg; rw [r_len_Leg ht] at hm; unfold maxLen at hm; simp only [G.real]; rw [i64_in] <;> omega
@[simp] theorem llen_Leg (l : List Leg) : G.real.llen (TE.real.r_Leg l) = (l.length : Int) := by rw [rr_Leg]; simp [G.real]
@[simp] theorem dlenx_Leg (l : List Leg) : G.real.dlen (TE.real.d_Leg l) = l.length := by rw [dd_Leg]; simp [G.real]
@[simp] theorem rlenx_Leg (l : List Leg) : (TE.real.r_Leg l).length = l.length := by rw [rr_Leg]; simp
end
theorem flx_I64 (x : Int) : flatD (I64.ds TE.real x) = true := rfl
theorem rr_I64 (l : List Int) : TE.real.r_I64 l = l.map (I64.rs TE.real) := rfl
theorem dd_I64 (l : List Int) : TE.real.d_I64 l = l.map (I64.ds TE.real) := rfl
theorem rdx_I64 (x : Int) : toRds (I64.ds TE.real x) = I64.rs TE.real x := by simp [I64.ds, I64.rs, toRds, toRd]
theorem frx_I64 (x : Int) : freshDs (I64.ds TE.real x) = true := by simp [I64.ds, freshDs, freshD]
theorem rdr_I64 (l : List Int) : toRdss (TE.real.d_I64 l) = TE.real.r_I64 l := by rw [dd_I64, rr_I64]; exact toRdss_of rdx_I64 l
theorem frr_I64 (l : List Int) : freshDss (TE.real.d_I64 l) = true := by rw [dd_I64]; exact fresh_of frx_I64 l
section
variable {g : G} {t : TE} (hg : g = G.real) (ht : t = TE.real)
include ht
theorem r_len_I64 (l : List Int) : (t.r_I64 l).length = l.length := by subst ht; rw [rr_I64]; simp
theorem d_len_I64 (l : List Int) : (t.d_I64 l).length = l.length := by subst ht; rw [dd_I64]; simp
theorem d_nil_I64 : t.d_I64 [] = [] := by subst ht; rfl
theorem dsetl_I64 (l : List Int) (i : Nat) (x : Int) : (t.d_I64 (l.set i x)).length = (t.d_I64 l).length := by subst ht; rw [dd_I64, dd_I64]; simp
theorem lenp_I64 {l l2 : List Int} {n : Nat} (h : n = (t.d_I64 l).length) (h2 : l2.length = l.length) : n = (t.d_I64 l2).length := by rw [h, d_len_I64 ht, d_len_I64 ht, h2]
theorem fresh_I64 (l : List Int) : freshDss (t.d_I64 l) = true := by subst ht; exact frr_I64 l
theorem lend_I64 {l : List Int} {n : Nat} (h : n = (t.d_I64 l).length) : 0 + n ≤ (t.d_I64 l).length := by omega
include hg
theorem r_get_I64 {l : List Int} {i : Nat} {x : Int} (h : l[i]? = some x) : (t.r_I64 l)[i]? = some (I64.rs t x) := by subst ht; rw [rr_I64]; exact map_get _ h
theorem d_get_I64 {l : List Int} {i : Nat} {x : Int} (h : l[i]? = some x) : (t.d_I64 l)[i]? = some (I64.ds t x) := by subst ht; rw [dd_I64]; exact map_get _ h
theorem r_getL_I64 {l : List Int} {i : Int} {k : Nat} {x : Int} (hi : i = ((k : Nat) : Int)) (h : l[k]? = some x) : (t.r_I64 l)[g.nat i]? = some (I64.rs t x) := by
  subst hg; subst hi; exact r_get_I64 rfl ht (by simpa [G.real] using h)
theorem lit_I64 (l : List Int) : List.map (I64.ds t) l = t.d_I64 l := by subst ht; rfl
theorem litn_I64 (l : List Int) : l.length = g.dlen (t.d_I64 l) := by subst hg; subst ht; rw [dd_I64]; simp [G.real]
theorem dlen_I64 (l : List Int) : g.dlen (t.d_I64 l) = (t.d_I64 l).length := by subst hg; rfl
theorem drep_I64 (j : Int) (z : Int) : g.drep j (I64.ds t z) = t.d_I64 (List.replicate (g.nat j) z) := by subst hg; subst ht; rw [dd_I64]; simp [G.real]
theorem drepn_I64 (j : Int) (z : Int) : g.nat j = g.dlen (t.d_I64 (List.replicate (g.nat j) z)) := by subst hg; subst ht; rw [dd_I64]; simp [G.real]
theorem dset_I64 (l : List Int) (i : Nat) (x : Int) : g.dset (t.d_I64 l) i (I64.ds t x) = t.d_I64 (l.set i x) := by subst hg; subst ht; rw [dd_I64, dd_I64]; simp [G.real, List.map_set]
theorem app_I64 {l m : List Int} {n : Nat} {news : List (List D)} (h1 : n = (t.d_I64 l).length) (h2 : news = t.d_I64 m) : g.dapp (t.d_I64 l) n news = t.d_I64 (l ++ m) := by
  subst h1; subst h2; subst hg; subst ht; simp only [dd_I64, G.real, List.map_append, List.take_length]
theorem appl_I64 {l m : List Int} {n : Nat} {news : List (List D)} (h1 : n = (t.d_I64 l).length) (h2 : news = t.d_I64 m) : g.nadd n (g.dlen news) = g.dlen (t.d_I64 (l ++ m)) := by
  subst h1; subst h2; subst hg; subst ht; simp only [dd_I64, G.real, List.map_append, List.length_append]
theorem app_ok_I64 {l m : List Int} {n b : Nat} {news : List (List D)} (h1 : n = (t.d_I64 l).length) (h2 : news = t.d_I64 m) (h : (l.length + m.length) * b ≤ 70368744177664) (hb : 0 < b := by decide) : 0 = 0 ∧ n ≤ (t.d_I64 l).length ∧ n + news.length ≤ maxLen ∧ (n + news.length) * b ≤ 140737488355328 :=
  app_okG h1 (d_len_I64 ht l) (h2 ▸ d_len_I64 ht m) hb h
theorem dsubw_I64 {m : List Int} {n : Nat} (h : n = (t.d_I64 m).length) : g.dsub (t.d_I64 m) 0 n = t.d_I64 m := by subst h; subst hg; simp [G.real]
theorem rda_I64 (l : List Int) : g.rda (t.d_I64 l) = t.r_I64 l := by subst hg; subst ht; exact rdr_I64 l
theorem rd_I64 (l : List Int) (lo n : Nat) : g.rd (t.d_I64 l) lo n = t.r_I64 (List.take n (List.drop lo l)) := by
  subst hg; subst ht
  rw [← rdr_I64, dd_I64, dd_I64]
  simp [G.real]
theorem rdw_I64 {l : List Int} {n : Nat} (h : n = (t.d_I64 l).length) : g.rd (t.d_I64 l) 0 n = t.r_I64 l := by rw [rd_I64 hg ht, h, d_len_I64 ht]; simp
theorem ltL_true_I64 {l : List Int} {i : Int} {k : Nat} (hi : i = ((k : Nat) : Int)) (hc : k < l.length) : g.lt i (g.llen (t.r_I64 l)) = true := by subst hg; simp [G.real, r_len_I64 ht]; omega
theorem ltL_false_I64 {l : List Int} {i : Int} {k : Nat} (hi : i = ((k : Nat) : Int)) (hc : ¬ k < l.length) : g.lt i (g.llen (t.r_I64 l)) = false := by subst hg; simp [G.real, r_len_I64 ht]; omega
theorem stepL_I64 {l : List Int} {i : Int} {k : Nat} (hi : i = ((k : Nat) : Int)) (hc : k < l.length) (hm : (t.r_I64 l).length ≤ maxLen) : g.wrap .i64 (g.add i 1) = ((k + 1 : Nat) : Int) := by
  subst hg; rw [r_len_I64 ht] at hm; unfold maxLen at hm; simp only [G.real]; rw [i64_in] <;> omega
@[simp] theorem llen_I64 (l : List Int) : G.real.llen (TE.real.r_I64 l) = (l.length : Int) := by rw [rr_I64]; simp [G.real]
@[simp] theorem dlenx_I64 (l : List Int) : G.real.dlen (TE.real.d_I64 l) = l.length := by rw [dd_I64]; simp [G.real]
@[simp] theorem rlenx_I64 (l : List Int) : (TE.real.r_I64 l).length = l.length := by rw [rr_I64]; simp
theorem up_I64 (m : List Int) : g.up (t.r_I64 m) = t.d_I64 m := by subst hg; subst ht; rw [rr_I64, dd_I64]; simp [G.real, I64.rs, I64.ds]
theorem subw_ok_I64 {m : List Int} {n : Nat} (h : n = (t.d_I64 m).length) : 0 + n ≤ (t.d_I64 m).length ∧ flatDs (((t.d_I64 m).drop 0).take n) = true := by
  subst h; subst ht; refine ⟨by omega, ?_⟩
  simp only [List.drop_zero, List.take_length, dd_I64]; exact flat_of flx_I64 m
end
theorem rr_Booking (l : List Booking) : TE.real.r_Booking l = l.map (Booking.rs TE.real) := rfl
theorem dd_Booking (l : List Booking) : TE.real.d_Booking l = l.map (Booking.ds TE.real) := rfl
theorem rdx_Booking (x : Booking) : toRds (Booking.ds TE.real x) = Booking.rs TE.real x := by simp [Booking.ds, Booking.rs, toRds, toRd]
theorem rdr_Booking (l : List Booking) : toRdss (TE.real.d_Booking l) = TE.real.r_Booking l := by rw [dd_Booking, rr_Booking]; exact toRdss_of rdx_Booking l
section
variable {g : G} {t : TE} (hg : g = G.real) (ht : t = TE.real)
include ht
theorem r_len_Booking (l : List Booking) : (t.r_Booking l).length = l.length := by subst ht; rw [rr_Booking]; simp
theorem d_len_Booking (l : List Booking) : (t.d_Booking l).length = l.length := by subst ht; rw [dd_Booking]; simp
theorem d_nil_Booking : t.d_Booking [] = [] := by subst ht; rfl
theorem dsetl_Booking (l : List Booking) (i : Nat) (x : Booking) : (t.d_Booking (l.set i x)).length = (t.d_Booking l).length := by subst ht; rw [dd_Booking, dd_Booking]; simp
theorem lenp_Booking {l l2 : List Booking} {n : Nat} (h : n = (t.d_Booking l).length) (h2 : l2.length = l.length) : n = (t.d_Booking l2).length := by rw [h, d_len_Booking ht, d_len_Booking ht, h2]
theorem lend_Booking {l : List Booking} {n : Nat} (h : n = (t.d_Booking l).length) : 0 + n ≤ (t.d_Booking l).length := by omega
include hg
theorem r_get_Booking {l : List Booking} {i : Nat} {x : Booking} (h : l[i]? = some x) : (t.r_Booking l)[i]? = some (Booking.rs t x) := by subst ht; rw [rr_Booking]; exact map_get _ h
theorem d_get_Booking {l : List Booking} {i : Nat} {x : Booking} (h : l[i]? = some x) : (t.d_Booking l)[i]? = some (Booking.ds t x) := by subst ht; rw [dd_Booking]; exact map_get _ h
theorem r_getL_Booking {l : List Booking} {i : Int} {k : Nat} {x : Booking} (hi : i = ((k : Nat) : Int)) (h : l[k]? = some x) : (t.r_Booking l)[g.nat i]? = some (Booking.rs t x) := by
  subst hg; subst hi; exact r_get_Booking rfl ht (by simpa [G.real] using h)
theorem dlen_Booking (l : List Booking) : g.dlen (t.d_Booking l) = (t.d_Booking l).length := by subst hg; rfl
theorem drep_Booking (j : Int) (z : Booking) : g.drep j (Booking.ds t z) = t.d_Booking (List.replicate (g.nat j) z) := by subst hg; subst ht; rw [dd_Booking]; simp [G.real]
theorem drepn_Booking (j : Int) (z : Booking) : g.nat j = g.dlen (t.d_Booking (List.replicate (g.nat j) z)) := by subst hg; subst ht; rw [dd_Booking]; simp [G.real]
theorem dset_Booking (l : List Booking) (i : Nat) (x : Booking) : g.dset (t.d_Booking l) i (Booking.ds t x) = t.d_Booking (l.set i x) := by subst hg; subst ht; rw [dd_Booking, dd_Booking]; simp [G.real, List.map_set]
theorem rda_Booking (l : List Booking) : g.rda (t.d_Booking l) = t.r_Booking l := by subst hg; subst ht; exact rdr_Booking l
theorem rd_Booking (l : List Booking) (lo n : Nat) : g.rd (t.d_Booking l) lo n = t.r_Booking (List.take n (List.drop lo l)) := by
  subst hg; subst ht
  rw [← rdr_Booking, dd_Booking, dd_Booking]
  simp [G.real]
theorem rdw_Booking {l : List Booking} {n : Nat} (h : n = (t.d_Booking l).length) : g.rd (t.d_Booking l) 0 n = t.r_Booking l := by rw [rd_Booking hg ht, h, d_len_Booking ht]; simp
theorem ltL_true_Booking {l : List Booking} {i : Int} {k : Nat} (hi : i = ((k : Nat) : Int)) (hc : k < l.length) : g.lt i (g.llen (t.r_Booking l)) = true := by subst hg; simp [G.real, r_len_Booking ht]; omega
theorem ltL_false_Booking {l : List Booking} {i : Int} {k : Nat} (hi : i = ((k : Nat) : Int)) (hc : ¬ k < l.length) : g.lt i (g.llen (t.r_Booking l)) = false := by subst hg; simp [G.real, r_len_Booking ht]; omega
theorem stepL_Booking {l : List Booking} {i : Int} {k : Nat} (hi : i = ((k : Nat) : Int)) (hc : k < l.length) (hm : (t.r_Booking l).length ≤ maxLen) : g.wrap .i64 (g.add i 1) = ((k + 1 : Nat) : Int) := by
  subst hg; rw [r_len_Booking ht] at hm; unfold maxLen at hm; simp only [G.real]; rw [i64_in] <;> omega
@[simp] theorem llen_Booking (l : List Booking) : G.real.llen (TE.real.r_Booking l) = (l.length : Int) := by rw [rr_Booking]; simp [G.real]
@[simp] theorem dlenx_Booking (l : List Booking) : G.real.dlen (TE.real.d_Booking l) = l.length := by rw [dd_Booking]; simp [G.real]
@[simp] theorem rlenx_Booking (l : List Booking) : (TE.real.r_Booking l).length = l.length := by rw [rr_Booking]; simp
end
theorem flx_Trip (x : Trip) : flatD (Trip.ds TE.real x) = true := rfl
theorem rr_Trip (l : List Trip) : TE.real.r_Trip l = l.map (Trip.rs TE.real) := rfl
theorem dd_Trip (l : List Trip) : TE.real.d_Trip l = l.map (Trip.ds TE.real) := rfl
theorem rdx_Trip (x : Trip) : toRds (Trip.ds TE.real x) = Trip.rs TE.real x := by simp [Trip.ds, Trip.rs, toRds, toRd]
theorem frx_Trip (x : Trip) : freshDs (Trip.ds TE.real x) = true := by simp [Trip.ds, freshDs, freshD]
theorem rdr_Trip (l : List Trip) : toRdss (TE.real.d_Trip l) = TE.real.r_Trip l := by rw [dd_Trip, rr_Trip]; exact toRdss_of rdx_Trip l
theorem frr_Trip (l : List Trip) : freshDss (TE.real.d_Trip l) = true := by rw [dd_Trip]; exact fresh_of frx_Trip l
section
variable {g : G} {t : TE} (hg : g = G.real) (ht : t = TE.real)
include ht
theorem r_len_Trip (l : List Trip) : (t.r_Trip l).length = l.length := by subst ht; rw [rr_Trip]; simp
theorem d_len_Trip (l : List Trip) : (t.d_Trip l).length = l.length := by subst ht; rw [dd_Trip]; simp
theorem d_nil_Trip : t.d_Trip [] = [] := by subst ht; rfl
theorem dsetl_Trip (l : List Trip) (i : Nat) (x : Trip) : (t.d_Trip (l.set i x)).length = (t.d_Trip l).length := by subst ht; rw [dd_Trip, dd_Trip]; simp
theorem lenp_Trip {l l2 : List Trip} {n : Nat} (h : n = (t.d_Trip l).length) (h2 : l2.length = l.length) : n = (t.d_Trip l2).length := by rw [h, d_len_Trip ht, d_len_Trip ht, h2]
theorem fresh_Trip (l : List Trip) : freshDss (t.d_Trip l) = true := by subst ht; exact frr_Trip l
theorem lend_Trip {l : List Trip} {n : Nat} (h : n = (t.d_Trip l).length) : 0 + n ≤ (t.d_Trip l).length := by omega
include hg
theorem r_get_Trip {l : List Trip} {i : Nat} {x : Trip} (h : l[i]? = some x) : (t.r_Trip l)[i]? = some (Trip.rs t x) := by subst ht; rw [rr_Trip]; exact map_get _ h
theorem d_get_Trip {l : List Trip} {i : Nat} {x : Trip} (h : l[i]? = some x) : (t.d_Trip l)[i]? = some (Trip.ds t x) := by subst ht; rw [dd_Trip]; exact map_get _ h
theorem r_getL_Trip {l : List Trip} {i : Int} {k : Nat} {x : Trip} (hi : i = ((k : Nat) : Int)) (h : l[k]? = some x) : (t.r_Trip l)[g.nat i]? = some (Trip.rs t x) := by
  subst hg; subst hi; exact r_get_Trip rfl ht (by simpa [G.real] using h)
theorem lit_Trip (l : List Trip) : List.map (Trip.ds t) l = t.d_Trip l := by subst ht; rfl
theorem litn_Trip (l : List Trip) : l.length = g.dlen (t.d_Trip l) := by subst hg; subst ht; rw [dd_Trip]; simp [G.real]
theorem dlen_Trip (l : List Trip) : g.dlen (t.d_Trip l) = (t.d_Trip l).length := by subst hg; rfl
theorem drep_Trip (j : Int) (z : Trip) : g.drep j (Trip.ds t z) = t.d_Trip (List.replicate (g.nat j) z) := by subst hg; subst ht; rw [dd_Trip]; simp [G.real]
theorem drepn_Trip (j : Int) (z : Trip) : g.nat j = g.dlen (t.d_Trip (List.replicate (g.nat j) z)) := by subst hg; subst ht; rw [dd_Trip]; simp [G.real]
theorem dset_Trip (l : List Trip) (i : Nat) (x : Trip) : g.dset (t.d_Trip l) i (Trip.ds t x) = t.d_Trip (l.set i x) := by subst hg; subst ht; rw [dd_Trip, dd_Trip]; simp [G.real, List.map_set]
theorem app_Trip {l m : List Trip} {n : Nat} {news : List (List D)} (h1 : n = (t.d_Trip l).length) (h2 : news = t.d_Trip m) : g.dapp (t.d_Trip l) n news = t.d_Trip (l ++ m) := by
  subst h1; subst h2; subst hg; subst ht; simp only [dd_Trip, G.real, List.map_append, List.take_length]
theorem appl_Trip {l m : List Trip} {n : Nat} {news : List (List D)} (h1 : n = (t.d_Trip l).length) (h2 : news = t.d_Trip m) : g.nadd n (g.dlen news) = g.dlen (t.d_Trip (l ++ m)) := by
  subst h1; subst h2; subst hg; subst ht; simp only [dd_Trip, G.real, List.map_append, List.length_append]
theorem app_ok_Trip {l m : List Trip} {n b : Nat} {news : List (List D)} (h1 : n = (t.d_Trip l).length) (h2 : news = t.d_Trip m) (h : (l.length + m.length) * b ≤ 70368744177664) (hb : 0 < b := by decide) : 0 = 0 ∧ n ≤ (t.d_Trip l).length ∧ n + news.length ≤ maxLen ∧ (n + news.length) * b ≤ 140737488355328 :=
  app_okG h1 (d_len_Trip ht l) (h2 ▸ d_len_Trip ht m) hb h
theorem dsubw_Trip {m : List Trip} {n : Nat} (h : n = (t.d_Trip m).length) : g.dsub (t.d_Trip m) 0 n = t.d_Trip m := by subst h; subst hg; simp [G.real]
theorem rda_Trip (l : List Trip) : g.rda (t.d_Trip l) = t.r_Trip l := by subst hg; subst ht; exact rdr_Trip l
theorem rd_Trip (l : List Trip) (lo n : Nat) : g.rd (t.d_Trip l) lo n = t.r_Trip (List.take n (List.drop lo l)) := by
  subst hg; subst ht
  rw [← rdr_Trip, dd_Trip, dd_Trip]
  simp [G.real]
theorem rdw_Trip {l : List Trip} {n : Nat} (h : n = (t.d_Trip l).length) : g.rd (t.d_Trip l) 0 n = t.r_Trip l := by rw [rd_Trip hg ht, h, d_len_Trip ht]; simp
theorem ltL_true_Trip {l : List Trip} {i : Int} {k : Nat} (hi : i = ((k : Nat) : Int)) (hc : k < l.length) : g.lt i (g.llen (t.r_Trip l)) = true := by subst hg; simp [G.real, r_len_Trip ht]; omega
theorem ltL_false_Trip {l : List Trip} {i : Int} {k : Nat} (hi : i = ((k : Nat) : Int)) (hc : ¬ k < l.length) : g.lt i (g.llen (t.r_Trip l)) = false := by subst hg; simp [G.real, r_len_Trip ht]; omega
theorem stepL_Trip {l : List Trip} {i : Int} {k : Nat} (hi : i = ((k : Nat) : Int)) (hc : k < l.length) (hm : (t.r_Trip l).length ≤ maxLen) : g.wrap .i64 (g.add i 1) = ((k + 1 : Nat) : Int) := by
  subst hg; rw [r_len_Trip ht] at hm; unfold maxLen at hm; simp only [G.real]; rw [i64_in] <;> omega
@[simp] theorem llen_Trip (l : List Trip) : G.real.llen (TE.real.r_Trip l) = (l.length : Int) := by rw [rr_Trip]; simp [G.real]
@[simp] theorem dlenx_Trip (l : List Trip) : G.real.dlen (TE.real.d_Trip l) = l.length := by rw [dd_Trip]; simp [G.real]
@[simp] theorem rlenx_Trip (l : List Trip) : (TE.real.r_Trip l).length = l.length := by rw [rr_Trip]; simp
theorem subw_ok_Trip {m : List Trip} {n : Nat} (h : n = (t.d_Trip m).length) : 0 + n ≤ (t.d_Trip m).length ∧ flatDs (((t.d_Trip m).drop 0).take n) = true := by
  subst h; subst ht; refine ⟨by omega, ?_⟩
  simp only [List.drop_zero, List.take_length, dd_Trip]; exact flat_of flx_Trip m
end
theorem flx_S (x : ByteArray) : flatD (S.ds TE.real x) = true := rfl
theorem rr_S (l : List ByteArray) : TE.real.r_S l = l.map (S.rs TE.real) := rfl
theorem dd_S (l : List ByteArray) : TE.real.d_S l = l.map (S.ds TE.real) := rfl
theorem rdx_S (x : ByteArray) : toRds (S.ds TE.real x) = S.rs TE.real x := by simp [S.ds, S.rs, toRds, toRd]
theorem rdr_S (l : List ByteArray) : toRdss (TE.real.d_S l) = TE.real.r_S l := by rw [dd_S, rr_S]; exact toRdss_of rdx_S l
section
variable {g : G} {t : TE} (hg : g = G.real) (ht : t = TE.real)
include ht
theorem r_len_S (l : List ByteArray) : (t.r_S l).length = l.length := by subst ht; rw [rr_S]; simp
theorem d_len_S (l : List ByteArray) : (t.d_S l).length = l.length := by subst ht; rw [dd_S]; simp
theorem d_nil_S : t.d_S [] = [] := by subst ht; rfl
theorem lenp_S {l l2 : List ByteArray} {n : Nat} (h : n = (t.d_S l).length) (h2 : l2.length = l.length) : n = (t.d_S l2).length := by rw [h, d_len_S ht, d_len_S ht, h2]
theorem lend_S {l : List ByteArray} {n : Nat} (h : n = (t.d_S l).length) : 0 + n ≤ (t.d_S l).length := by omega
include hg
theorem r_get_S {l : List ByteArray} {i : Nat} {x : ByteArray} (h : l[i]? = some x) : (t.r_S l)[i]? = some (S.rs t x) := by subst ht; rw [rr_S]; exact map_get _ h
theorem d_get_S {l : List ByteArray} {i : Nat} {x : ByteArray} (h : l[i]? = some x) : (t.d_S l)[i]? = some (S.ds t x) := by subst ht; rw [dd_S]; exact map_get _ h
theorem r_getL_S {l : List ByteArray} {i : Int} {k : Nat} {x : ByteArray} (hi : i = ((k : Nat) : Int)) (h : l[k]? = some x) : (t.r_S l)[g.nat i]? = some (S.rs t x) := by
  subst hg; subst hi; exact r_get_S rfl ht (by simpa [G.real] using h)
theorem lit_S (l : List ByteArray) : List.map (S.ds t) l = t.d_S l := by subst ht; rfl
theorem litn_S (l : List ByteArray) : l.length = g.dlen (t.d_S l) := by subst hg; subst ht; rw [dd_S]; simp [G.real]
theorem dlen_S (l : List ByteArray) : g.dlen (t.d_S l) = (t.d_S l).length := by subst hg; rfl
theorem app_S {l m : List ByteArray} {n : Nat} {news : List (List D)} (h1 : n = (t.d_S l).length) (h2 : news = t.d_S m) : g.dapp (t.d_S l) n news = t.d_S (l ++ m) := by
  subst h1; subst h2; subst hg; subst ht; simp only [dd_S, G.real, List.map_append, List.take_length]
theorem appl_S {l m : List ByteArray} {n : Nat} {news : List (List D)} (h1 : n = (t.d_S l).length) (h2 : news = t.d_S m) : g.nadd n (g.dlen news) = g.dlen (t.d_S (l ++ m)) := by
  subst h1; subst h2; subst hg; subst ht; simp only [dd_S, G.real, List.map_append, List.length_append]
theorem app_ok_S {l m : List ByteArray} {n b : Nat} {news : List (List D)} (h1 : n = (t.d_S l).length) (h2 : news = t.d_S m) (h : (l.length + m.length) * b ≤ 70368744177664) (hb : 0 < b := by decide) : 0 = 0 ∧ n ≤ (t.d_S l).length ∧ n + news.length ≤ maxLen ∧ (n + news.length) * b ≤ 140737488355328 :=
  app_okG h1 (d_len_S ht l) (h2 ▸ d_len_S ht m) hb h
theorem rd_S (l : List ByteArray) (lo n : Nat) : g.rd (t.d_S l) lo n = t.r_S (List.take n (List.drop lo l)) := by
  subst hg; subst ht
  rw [← rdr_S, dd_S, dd_S]
  simp [G.real]
theorem rdw_S {l : List ByteArray} {n : Nat} (h : n = (t.d_S l).length) : g.rd (t.d_S l) 0 n = t.r_S l := by rw [rd_S hg ht, h, d_len_S ht]; simp
theorem ltL_true_S {l : List ByteArray} {i : Int} {k : Nat} (hi : i = ((k : Nat) : Int)) (hc : k < l.length) : g.lt i (g.llen (t.r_S l)) = true := by subst hg; simp [G.real, r_len_S ht]; omega
theorem ltL_false_S {l : List ByteArray} {i : Int} {k : Nat} (hi : i = ((k : Nat) : Int)) (hc : ¬ k < l.length) : g.lt i (g.llen (t.r_S l)) = false := by subst hg; simp [G.real, r_len_S ht]; omega
theorem stepL_S {l : List ByteArray} {i : Int} {k : Nat} (hi : i = ((k : Nat) : Int)) (hc : k < l.length) (hm : (t.r_S l).length ≤ maxLen) : g.wrap .i64 (g.add i 1) = ((k + 1 : Nat) : Int) := by
  subst hg; rw [r_len_S ht] at hm; unfold maxLen at hm; simp only [G.real]; rw [i64_in] <;> omega
@[simp] theorem llen_S (l : List ByteArray) : G.real.llen (TE.real.r_S l) = (l.length : Int) := by rw [rr_S]; simp [G.real]
@[simp] theorem dlenx_S (l : List ByteArray) : G.real.dlen (TE.real.d_S l) = l.length := by rw [dd_S]; simp [G.real]
@[simp] theorem rlenx_S (l : List ByteArray) : (TE.real.r_S l).length = l.length := by rw [rr_S]; simp
theorem dsub_S (m : List ByteArray) (lo n : Nat) : g.dsub (t.d_S m) lo n = t.d_S (List.take n (List.drop lo m)) := by subst hg; subst ht; rw [dd_S, dd_S]; simp [G.real]
theorem subp_ok_S {m : List ByteArray} {lo n : Nat} (h : lo + n ≤ m.length) : lo + n ≤ (t.d_S m).length ∧ flatDs (((t.d_S m).drop lo).take n) = true := by
  subst ht; refine ⟨by rw [d_len_S rfl]; exact h, ?_⟩
  rw [dd_S, ← List.map_drop, ← List.map_take]; exact flat_of flx_S _
end
theorem rr_LI64 (l : List (List Int)) : TE.real.r_LI64 l = l.map (LI64.rs TE.real) := rfl
theorem dd_LI64 (l : List (List Int)) : TE.real.d_LI64 l = l.map (LI64.ds TE.real) := rfl
section
variable {g : G} {t : TE} (hg : g = G.real) (ht : t = TE.real)
include ht
theorem d_len_LI64 (l : List (List Int)) : (t.d_LI64 l).length = l.length := by subst ht; rw [dd_LI64]; simp
theorem d_nil_LI64 : t.d_LI64 [] = [] := by subst ht; rfl
include hg
theorem d_get_LI64 {l : List (List Int)} {i : Nat} {x : (List Int)} (h : l[i]? = some x) : (t.d_LI64 l)[i]? = some (LI64.ds t x) := by subst ht; rw [dd_LI64]; exact map_get _ h
theorem lit_LI64 (l : List (List Int)) : List.map (LI64.ds t) l = t.d_LI64 l := by subst ht; rfl
theorem litn_LI64 (l : List (List Int)) : l.length = g.dlen (t.d_LI64 l) := by subst hg; subst ht; rw [dd_LI64]; simp [G.real]
theorem dlen_LI64 (l : List (List Int)) : g.dlen (t.d_LI64 l) = (t.d_LI64 l).length := by subst hg; rfl
theorem dset_LI64 (l : List (List Int)) (i : Nat) (x : (List Int)) : g.dset (t.d_LI64 l) i (LI64.ds t x) = t.d_LI64 (l.set i x) := by subst hg; subst ht; rw [dd_LI64, dd_LI64]; simp [G.real, List.map_set]
theorem dsets_LI64 {l : List (List Int)} {i : Nat} {x : (List Int)} (h : l[i]? = some x) : g.dset (t.d_LI64 l) i (LI64.ds t x) = t.d_LI64 l := by
  rw [dset_LI64 hg ht]
  congr 1
  apply List.ext_getElem?
  intro j
  rw [List.getElem?_set]
  split
  · rename_i e
    subst e
    rw [h]
    split
    · rfl
    · rename_i hn
      rw [List.getElem?_eq_none (by omega)] at h
      cases h
  · rfl
theorem app_LI64 {l m : List (List Int)} {n : Nat} {news : List (List D)} (h1 : n = (t.d_LI64 l).length) (h2 : news = t.d_LI64 m) : g.dapp (t.d_LI64 l) n news = t.d_LI64 (l ++ m) := by
  subst h1; subst h2; subst hg; subst ht; simp only [dd_LI64, G.real, List.map_append, List.take_length]
theorem appl_LI64 {l m : List (List Int)} {n : Nat} {news : List (List D)} (h1 : n = (t.d_LI64 l).length) (h2 : news = t.d_LI64 m) : g.nadd n (g.dlen news) = g.dlen (t.d_LI64 (l ++ m)) := by
  subst h1; subst h2; subst hg; subst ht; simp only [dd_LI64, G.real, List.map_append, List.length_append]
theorem app_ok_LI64 {l m : List (List Int)} {n b : Nat} {news : List (List D)} (h1 : n = (t.d_LI64 l).length) (h2 : news = t.d_LI64 m) (h : (l.length + m.length) * b ≤ 70368744177664) (hb : 0 < b := by decide) : 0 = 0 ∧ n ≤ (t.d_LI64 l).length ∧ n + news.length ≤ maxLen ∧ (n + news.length) * b ≤ 140737488355328 :=
  app_okG h1 (d_len_LI64 ht l) (h2 ▸ d_len_LI64 ht m) hb h
@[simp] theorem llen_LI64 (l : List (List Int)) : G.real.llen (TE.real.r_LI64 l) = (l.length : Int) := by rw [rr_LI64]; simp [G.real]
@[simp] theorem dlenx_LI64 (l : List (List Int)) : G.real.dlen (TE.real.d_LI64 l) = l.length := by rw [dd_LI64]; simp [G.real]
@[simp] theorem rlenx_LI64 (l : List (List Int)) : (TE.real.r_LI64 l).length = l.length := by rw [rr_LI64]; simp
end
theorem rr_U8 (l : List Int) : TE.real.r_U8 l = l.map (U8.rs TE.real) := rfl
theorem dd_U8 (l : List Int) : TE.real.d_U8 l = l.map (U8.ds TE.real) := rfl
theorem rdx_U8 (x : Int) : toRds (U8.ds TE.real x) = U8.rs TE.real x := by simp [U8.ds, U8.rs, toRds, toRd]
theorem rdr_U8 (l : List Int) : toRdss (TE.real.d_U8 l) = TE.real.r_U8 l := by rw [dd_U8, rr_U8]; exact toRdss_of rdx_U8 l
section
variable {g : G} {t : TE} (hg : g = G.real) (ht : t = TE.real)
include ht
theorem d_len_U8 (l : List Int) : (t.d_U8 l).length = l.length := by subst ht; rw [dd_U8]; simp
theorem d_nil_U8 : t.d_U8 [] = [] := by subst ht; rfl
theorem lend_U8 {l : List Int} {n : Nat} (h : n = (t.d_U8 l).length) : 0 + n ≤ (t.d_U8 l).length := by omega
include hg
theorem lit_U8 (l : List Int) : List.map (U8.ds t) l = t.d_U8 l := by subst ht; rfl
theorem litn_U8 (l : List Int) : l.length = g.dlen (t.d_U8 l) := by subst hg; subst ht; rw [dd_U8]; simp [G.real]
theorem dlen_U8 (l : List Int) : g.dlen (t.d_U8 l) = (t.d_U8 l).length := by subst hg; rfl
theorem rd_U8 (l : List Int) (lo n : Nat) : g.rd (t.d_U8 l) lo n = t.r_U8 (List.take n (List.drop lo l)) := by
  subst hg; subst ht
  rw [← rdr_U8, dd_U8, dd_U8]
  simp [G.real]
theorem rdw_U8 {l : List Int} {n : Nat} (h : n = (t.d_U8 l).length) : g.rd (t.d_U8 l) 0 n = t.r_U8 l := by rw [rd_U8 hg ht, h, d_len_U8 ht]; simp
@[simp] theorem llen_U8 (l : List Int) : G.real.llen (TE.real.r_U8 l) = (l.length : Int) := by rw [rr_U8]; simp [G.real]
@[simp] theorem dlenx_U8 (l : List Int) : G.real.dlen (TE.real.d_U8 l) = l.length := by rw [dd_U8]; simp [G.real]
@[simp] theorem rlenx_U8 (l : List Int) : (TE.real.r_U8 l).length = l.length := by rw [rr_U8]; simp
end
end Go.Vs
