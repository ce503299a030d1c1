/- Part of the proofs of this seat's laws: Net. No condition. -/
import Derived.Test.YtkchjifooaonjaaVf
import Derived.Test.YtkchjifooaonjaaTy
import Derived.Test.YtkchjifooaonjaaVg
import Derived.Sort.Walk0
import Derived.Test.YtkchjifooaonjaaLab
import Derived.Test.YtkchjifooaonjaaLaa
set_option linter.unusedVariables false
set_option linter.unusedSimpArgs false
set_option linter.unusedSectionVars false
namespace Go.Vs
open Go.IntWalk
set_option linter.unusedVariables false
set_option linter.unusedSimpArgs false
def sumT {α : Type} (f : α → Nat) (l : List α) : Nat := (l.map f).sum
theorem sumT_mem {α : Type} (f : α → Nat) {l : List α} {x : α} (h : x ∈ l) : f x ≤ sumT f l := by
  unfold sumT
  induction l with
  | nil => cases h
  | cons y l ih =>
    simp only [List.map_cons, List.sum_cons]
    rcases List.mem_cons.1 h with h | h
    · subst h; omega
    · have := ih h; omega
def Leg.tot (x : Leg) : Nat := x.From.size + x.To.size
def Leg.wd (x : Leg) : Prop := x.From.size ≤ 9223372036854775807 ∧ x.To.size ≤ 9223372036854775807
def Network.tot (x : Network) : Nat := (x.Legs.length + sumT (fun y => Leg.tot y) x.Legs) + x.Off.length
def Network.wd (x : Network) : Prop := (x.Legs.length ≤ 9223372036854775807 ∧ ∀ y ∈ x.Legs, Leg.wd y) ∧ x.Off.length ≤ 9223372036854775807
def Scan.tot (x : Scan) : Nat := x.Place.size
def Scan.wd (x : Scan) : Prop := x.Place.size ≤ 9223372036854775807
end Go.Vs
/- Plain facts on strings: their order, what is a sorted row of them. -/
namespace Go.Vs
open Go.IntWalk
theorem ba_inj {a b : ByteArray} (h : bOf a = bOf b) : a = b := by
  have := congrArg sOf h
  rwa [sOf_bOf, sOf_bOf] at this
instance memD (x : ByteArray) : ∀ l : List ByteArray, Decidable (x ∈ l)
  | [] => .isFalse (by simp)
  | y :: l => match decEq x y, memD x l with
    | .isTrue h, _ => .isTrue (by simp [h])
    | .isFalse h, .isTrue h2 => .isTrue (by simp [h2])
    | .isFalse h, .isFalse h2 => .isFalse (by simp [h, h2])
theorem R_seqd (a b : ByteArray) : G.real.seq a b = decide (a = b) := by
  rw [R_seq, Lib.toList_data, Lib.toList_data]
  by_cases h : a = b
  · subst h; simp
  · have : ¬ a.data.toList = b.data.toList := fun e => h (ba_inj e)
    rw [decide_eq_false h]
    exact beq_false_of_ne this
def bLt (a b : ByteArray) : Prop := bOf a < bOf b
instance (a b : ByteArray) : Decidable (bLt a b) := inferInstanceAs (Decidable (bOf a < bOf b))
theorem R_slt (a b : ByteArray) : G.real.slt a b = decide (bLt a b) := by
  show Op.bytesLess a.toList b.toList = _
  rw [Go.Proofs.bytesLess_eq, Lib.toList_data, Lib.toList_data]
  rfl
theorem bLt_irrefl (a : ByteArray) : ¬ bLt a a := List.lt_irrefl _
theorem bLt_trans {a b c : ByteArray} (h1 : bLt a b) (h2 : bLt b c) : bLt a c := List.lt_trans h1 h2
theorem bLt_tri (a b : ByteArray) : bLt a b ∨ a = b ∨ bLt b a := by
  by_cases h1 : bLt a b
  · exact .inl h1
  · by_cases h2 : bLt b a
    · exact .inr (.inr h2)
    · refine .inr (.inl (ba_inj ?_))
      exact List.le_antisymm (fun h => h2 h) (fun h => h1 h)
/-- strictly sorted rows with the same members are one -/
theorem sorted_ext : ∀ {l m : List ByteArray}, l.Pairwise bLt → m.Pairwise bLt → (∀ x, x ∈ l ↔ x ∈ m) → l = m
  | [], [], _, _, _ => rfl
  | [], y :: m, _, _, h => by have := (h y).2 (by simp); simp at this
  | x :: l, [], _, _, h => by have := (h x).1 (by simp); simp at this
  | x :: l, y :: m, hl, hm, h => by
    obtain ⟨l1, l2⟩ := List.pairwise_cons.1 hl
    obtain ⟨m1, m2⟩ := List.pairwise_cons.1 hm
    have hxy : x = y := by
      have hx := (h x).1 (by simp)
      have hy := (h y).2 (by simp)
      rcases List.mem_cons.1 hx with e | hx
      · exact e
      · rcases List.mem_cons.1 hy with e | hy
        · exact e.symm
        · exact absurd (bLt_trans (l1 _ hy) (m1 _ hx)) (bLt_irrefl _)
    subst hxy
    congr 1
    refine sorted_ext l2 m2 fun z => ?_
    have hz := h z
    simp only [List.mem_cons] at hz
    constructor
    · intro hzl
      rcases hz.1 (.inr hzl) with e | e
      · subst e; exact absurd (l1 _ hzl) (bLt_irrefl _)
      · exact e
    · intro hzm
      rcases hz.2 (.inr hzm) with e | e
      · subst e; exact absurd (m1 _ hzm) (bLt_irrefl _)
      · exact e
theorem mem_srtS (l : List ByteArray) (z : ByteArray) : z ∈ srtS l ↔ z ∈ l := by
  have h : (srtS l).Perm ((l.map bOf).map sOf) := (List.mergeSort_perm _ _).map sOf
  rw [h.mem_iff, List.map_map]
  simp only [List.mem_map, Function.comp]
  constructor
  · rintro ⟨a, ha, rfl⟩; exact ha
  · intro hz; exact ⟨z, hz, rfl⟩
theorem srtS_len (l : List ByteArray) : (srtS l).length = l.length := by unfold srtS; rw [List.length_map, List.length_mergeSort, List.length_map]
theorem srtS_sorted {l : List ByteArray} (hn : l.Nodup) : (srtS l).Pairwise bLt := by
  have hp : (srtS l).Perm l := by
    have := (List.mergeSort_perm (l.map bOf) fun x y => decide (x ≤ y)).map sOf
    rw [List.map_map] at this
    have e : l.map (sOf ∘ bOf) = l := by
      conv => rhs; rw [← List.map_id l]
      rfl
    rw [e] at this
    exact this
  have hnd : (srtS l).Nodup := hp.nodup_iff.2 hn
  have hs : ((l.map bOf).mergeSort fun x y => decide (x ≤ y)).Pairwise fun a b => (decide (a ≤ b)) = true := by
    refine List.pairwise_mergeSort (fun a b c h1 h2 => ?_) (fun a b => ?_) _
    · simp only [decide_eq_true_eq] at h1 h2 ⊢; exact List.le_trans h1 h2
    · simp only [Bool.or_eq_true, decide_eq_true_eq]; exact List.le_total a b
  have hs2 : (srtS l).Pairwise fun a b => bOf a ≤ bOf b := by
    unfold srtS
    rw [List.pairwise_map]
    exact hs.imp fun h => by simpa [bOf_sOf] using h
  refine (hs2.and hnd).imp fun ⟨h1, h2⟩ => ?_
  rcases bLt_tri _ _ with h | h | h
  · exact h
  · exact absurd h h2
  · exact absurd h (fun hh => h1 hh)
/-- each once -/
def ddp : List ByteArray → List ByteArray
  | [] => []
  | x :: l => if x ∈ l then ddp l else x :: ddp l
theorem ddp_mem : ∀ (l : List ByteArray) (z : ByteArray), z ∈ ddp l ↔ z ∈ l
  | [], z => by simp [ddp]
  | x :: l, z => by
    unfold ddp
    split
    · rename_i h
      rw [ddp_mem l z, List.mem_cons]
      exact ⟨.inr, fun hh => hh.elim (fun e => e ▸ h) id⟩
    · rw [List.mem_cons, List.mem_cons, ddp_mem l z]
theorem ddp_nodup : ∀ l : List ByteArray, (ddp l).Nodup
  | [] => by simp [ddp]
  | x :: l => by
    unfold ddp
    split
    · exact ddp_nodup l
    · rename_i h
      exact List.nodup_cons.2 ⟨by rw [ddp_mem]; exact h, ddp_nodup l⟩
/-- the row of places: each once, in order -/
def srtU (l : List ByteArray) : List ByteArray := srtS (ddp l)
theorem srtU_mem (l : List ByteArray) (z : ByteArray) : z ∈ srtU l ↔ z ∈ l := by
  unfold srtU
  rw [mem_srtS, ddp_mem]
theorem srtU_sorted (l : List ByteArray) : (srtU l).Pairwise bLt := srtS_sorted (ddp_nodup l)
theorem srtU_eq {l m : List ByteArray} (h : m.Pairwise bLt) (hm : ∀ x, x ∈ m ↔ x ∈ l) : m = srtU l := sorted_ext h (srtU_sorted l) fun x => by rw [hm, srtU_mem]
theorem sorted_nodup {l : List ByteArray} (h : l.Pairwise bLt) : l.Nodup := h.imp fun h e => by subst e; exact bLt_irrefl _ h
theorem srtU_nodup (l : List ByteArray) : (srtU l).Nodup := sorted_nodup (srtU_sorted l)
theorem ddp_len : ∀ l : List ByteArray, (ddp l).length ≤ l.length
  | [] => by simp [ddp]
  | x :: l => by
    have := ddp_len l
    unfold ddp
    split <;> simp <;> omega
theorem srtU_len (l : List ByteArray) : (srtU l).length ≤ l.length := by unfold srtU; rw [srtS_len]; exact ddp_len l
/-- where a string stands; -1: nowhere -/
def ixN : List ByteArray → ByteArray → Nat
  | [], _ => 0
  | x :: l, s => if x = s then 0 else ixN l s + 1
theorem ixN_get : ∀ {l : List ByteArray} {s : ByteArray}, s ∈ l → ixN l s < l.length ∧ l[ixN l s]? = some s
  | x :: l, s, h => by
    unfold ixN
    split
    · rename_i e; subst e; simp
    · rename_i e
      have h2 := ixN_get ((List.mem_cons.1 h).resolve_left (fun hh => e hh.symm))
      simpa using h2
def ix (l : List ByteArray) (s : ByteArray) : Int := if s ∈ l then (ixN l s : Int) else -1
theorem ix_neg {l : List ByteArray} {s : ByteArray} : ix l s < 0 ↔ s ∉ l := by
  unfold ix; split <;> simp_all
theorem ix_nonneg {l : List ByteArray} {s : ByteArray} : 0 ≤ ix l s ↔ s ∈ l := by
  unfold ix; split <;> simp_all
theorem ix_of {l : List ByteArray} {s : ByteArray} (h : s ∈ l) : ix l s = (ixN l s : Int) := by unfold ix; rw [if_pos h]
theorem ix_get {l : List ByteArray} {s : ByteArray} (h : s ∈ l) : l[(ix l s).toNat]? = some s := by
  rw [ix_of h, Int.toNat_natCast]; exact (ixN_get h).2
theorem ix_lt {l : List ByteArray} {s : ByteArray} (h : s ∈ l) : 0 ≤ ix l s ∧ ix l s < l.length := by
  have := (ixN_get h).1
  rw [ix_of h]; omega
theorem ix_inj {l : List ByteArray} {s z : ByteArray} (h : s ∈ l) (h2 : z ∈ l) (e : ix l s = ix l z) : s = z := by
  have a := ix_get h
  have b := ix_get h2
  rw [e, b] at a
  exact (Option.some.inj a).symm
theorem ixN_nodup : ∀ {l : List ByteArray} {k : Nat} {s : ByteArray}, l.Nodup → l[k]? = some s → ixN l s = k
  | [], k, s, _, h => by simp at h
  | x :: l, k, s, hn, h => by
    obtain ⟨n1, n2⟩ := List.nodup_cons.1 hn
    cases k with
    | zero => simp at h; unfold ixN; rw [if_pos h]
    | succ k =>
      simp at h
      unfold ixN
      rw [if_neg (fun e => by subst e; exact n1 (List.mem_of_getElem? h)), ixN_nodup n2 h]
theorem ix_nodup {l : List ByteArray} {k : Nat} {s : ByteArray} (hn : l.Nodup) (h : l[k]? = some s) : ix l s = (k : Int) := by
  rw [ix_of (List.mem_of_getElem? h), ixN_nodup hn h]
end Go.Vs
/- Networks: places, legs. -/
namespace Go.Vs
open Go.IntWalk
theorem within_r (a b c : Int) : I_within G.real TE.real a b c = decide (b ≤ a ∧ a ≤ c) := by
  unfold I_within
  simp only [R_le, R_lt]
  by_cases h1 : b ≤ a
  · by_cases h2 : a ≤ c
    · simp [h1, h2]
    · simp [h1, h2]
  · simp [h1]
theorem l1In_r (a b c : Int) : S_l1In G.real TE.real a b c = decide (b ≤ a ∧ a ≤ c) := by
  unfold S_l1In
  simp only [R_le, R_lt]
  by_cases h1 : b ≤ a
  · by_cases h2 : a ≤ c
    · simp [h1, h2]
    · simp [h1, h2]
  · simp [h1]
theorem byte_rng (a : ByteArray) (k : Int) : 0 ≤ G.real.byte a k ∧ G.real.byte a k ≤ 255 := by
  have e : G.real.byte a k = ((a.data.getD k.toNat 0).toNat : Int) := rfl
  have := (a.data.getD k.toNat 0).toNat_lt
  rw [e]
  omega
def okB (a : ByteArray) : Nat → Nat → Bool
  | 0, _ => true
  | n + 1, k => decide (65 ≤ G.real.byte a (k : Int) ∧ G.real.byte a (k : Int) ≤ 90) && okB a n (k + 1)
theorem iPlace_l1 (a : ByteArray) (ha : a.size ≤ 1048576) : ∀ (n k : Nat), k + n = a.size → I_IsPlace_l1 G.real TE.real a n (k : Int) = if okB a n k = true then .out () else .ret false
  | 0, k, _ => by rw [I_IsPlace_l1]; rfl
  | n + 1, k, h => by
    rw [I_IsPlace_l1, okB]
    simp only [R_lt, R_add, br_dec]
    rw [w64 (by omega) (by omega), show (k : Int) + 1 = ((k + 1 : Nat) : Int) from by omega, iPlace_l1 a ha n (k + 1) (by omega)]
    by_cases h1 : G.real.byte a (k : Int) < 65
    · rw [if_pos h1, if_neg]
      simp only [Bool.and_eq_true, decide_eq_true_eq]; omega
    · rw [if_neg h1]
      by_cases h2 : 90 < G.real.byte a (k : Int)
      · rw [if_pos h2, if_neg]
        simp only [Bool.and_eq_true, decide_eq_true_eq]; omega
      · rw [if_neg h2]
        have : decide (65 ≤ G.real.byte a (k : Int) ∧ G.real.byte a (k : Int) ≤ 90) = true := by simp only [decide_eq_true_eq]; omega
        rw [this, Bool.true_and]
theorem sPlace_l1 (a : ByteArray) (ha : a.size ≤ 1048576) : ∀ (n k : Nat), k + n ≤ a.size → S_IsPlace_l1 G.real TE.real a n (k : Int) = some (if okB a n k = true then .out () else .ret false)
  | 0, k, _ => by rw [S_IsPlace_l1]; rfl
  | n + 1, k, h => by
    have hb := byte_rng a (k : Int)
    rw [S_IsPlace_l1, okB]
    simp only [R_add, lP_eq]
    rw [gd_true (by omega), w64 (n := G.real.byte a (k : Int)) (by omega) (by omega), l1In_r, br_dec, w64 (by omega) (by omega), show (k : Int) + 1 = ((k + 1 : Nat) : Int) from by omega, sPlace_l1 a ha n (k + 1) (by omega)]
    by_cases h1 : 65 ≤ G.real.byte a (k : Int) ∧ G.real.byte a (k : Int) ≤ 90
    · rw [if_pos h1]
      simp [h1]
    · rw [if_neg h1]
      simp only [h1, decide_false, Bool.false_and, Bool.false_eq_true, if_false]
theorem place_eq (a : ByteArray) (ha : a.size ≤ 1048576) : ∃ r, I_IsPlace G.real TE.real a = some r ∧ S_IsPlace G.real TE.real a = some r ∧ (r = true → a.size = 3) := by
  have cn : ∀ n : Nat, cntLt 0 (n : Int) = n := fun n => by unfold cntLt; omega
  unfold I_IsPlace S_IsPlace
  simp only [R_int, R_slen, lP_eq, R_eq, br_dec]
  rw [gd_true (by omega), cn, show (0 : Int) = ((0 : Nat) : Int) from rfl, iPlace_l1 a ha a.size 0 (by omega)]
  have e3 : (3 : Int) = ((3 : Nat) : Int) := rfl
  by_cases h3 : a.size = 3
  · have s3 := sPlace_l1 a ha 3 0 (by omega)
    cases hok : okB a a.size 0 with
    | true =>
      rw [h3] at hok
      rw [if_pos (c := (true = true)) rfl, if_pos (c := ((a.size : Int) = 3)) (by omega), e3, show cntLt ((0 : Nat) : Int) ((3 : Nat) : Int) = 3 from rfl, s3, cl_some, hok]
      exact ⟨true, by simp [h3], rfl, fun _ => h3⟩
    | false =>
      rw [h3] at hok
      rw [if_neg (c := (false = true)) (by simp), if_pos (c := ((a.size : Int) = 3)) (by omega), e3, show cntLt ((0 : Nat) : Int) ((3 : Nat) : Int) = 3 from rfl, s3, cl_some, hok]
      exact ⟨false, rfl, rfl, fun h => by cases h⟩
  · rw [if_neg (c := ((a.size : Int) = 3)) (by omega)]
    refine ⟨false, ?_, rfl, fun h => by cases h⟩
    split
    · rw [lr_out]; congr 1; simp only [decide_eq_false_iff_not]; omega
    · rfl
structure LegOk (l : Leg) : Prop where
  start : 0 ≤ l.Start ∧ l.Start ≤ 1439
  takes : 1 ≤ l.Takes ∧ l.Takes ≤ 4320
  days : 1 ≤ l.Days ∧ l.Days ≤ 127
  room : 0 ≤ l.Room ∧ l.Room ≤ 1000000
  from3 : l.From.size = 3
  to3 : l.To.size = 3
  ne : l.From ≠ l.To
theorem leg_eq (l : Leg) (hl : l.tot ≤ 1048576) : ∃ r, I_IsLeg G.real TE.real l = some r ∧ S_IsLeg G.real TE.real l = some r ∧ (r = true → LegOk l) := by
  unfold Leg.tot at hl
  obtain ⟨r1, a1, a2, a3⟩ := place_eq l.From (by omega)
  obtain ⟨r2, b1, b2, b3⟩ := place_eq l.To (by omega)
  unfold I_IsLeg S_IsLeg
  rw [a1, a2, b1, b2]
  simp only [cl_some, lP_eq, within_r, l1In_r, br_dec, R_seqd]
  cases r1 with
  | false => exact ⟨false, rfl, rfl, fun h => by cases h⟩
  | true =>
    cases r2 with
    | false => exact ⟨false, rfl, rfl, fun h => by cases h⟩
    | true =>
      rw [br_t, br_t]
      by_cases c0 : l.From = l.To
      · rw [if_pos c0]; exact ⟨false, rfl, rfl, fun h => by cases h⟩
      · rw [if_neg c0]
        by_cases d1 : 0 ≤ l.Start ∧ l.Start ≤ 1439
        · rw [if_pos d1]
          by_cases d2 : 1 ≤ l.Takes ∧ l.Takes ≤ 4320
          · rw [if_pos d2]
            by_cases d3 : 1 ≤ l.Days ∧ l.Days ≤ 127
            · rw [if_pos d3]; exact ⟨_, rfl, rfl, fun h => ⟨d1, d2, d3, by simpa using h, a3 rfl, b3 rfl, c0⟩⟩
            · rw [if_neg d3]; exact ⟨false, rfl, rfl, fun h => by cases h⟩
          · rw [if_neg d2]; exact ⟨false, rfl, rfl, fun h => by cases h⟩
        · rw [if_neg d1]; exact ⟨false, rfl, rfl, fun h => by cases h⟩
theorem net_l1 : ∀ (l : List Leg), (∀ x ∈ l, Leg.tot x ≤ 1048576) → ∃ o, I_IsNetwork_l1 G.real TE.real l = some o ∧ S_IsNetwork_l1 G.real TE.real l = some o ∧ (o = .ret false ∨ (o = .out () ∧ ∀ x ∈ l, LegOk x))
  | [], _ => by rw [I_IsNetwork_l1, S_IsNetwork_l1]; exact ⟨_, rfl, rfl, Or.inr ⟨rfl, by simp⟩⟩
  | z :: l, h => by
    obtain ⟨r, a1, a2, a3⟩ := leg_eq z (h z (by simp))
    obtain ⟨o, b1, b2, b3⟩ := net_l1 l fun x hx => h x (by simp [hx])
    rw [I_IsNetwork_l1, S_IsNetwork_l1, a1, a2, cl_some, cl_some]
    cases r with
    | true =>
      rw [br_t, br_t, b1, b2]
      refine ⟨o, rfl, rfl, ?_⟩
      rcases b3 with b3 | ⟨b3, b4⟩
      · exact Or.inl b3
      · refine Or.inr ⟨b3, fun x hx => ?_⟩
        rcases List.mem_cons.1 hx with rfl | hx
        · exact a3 rfl
        · exact b4 x hx
    | false => exact ⟨_, rfl, rfl, Or.inl rfl⟩
theorem net_l2 (n : Network) (hn : n.Off.length ≤ 1048576) : ∀ (l : List Int) (k : Nat), n.Off.drop k = l → ∃ o, I_IsNetwork_l2 G.real TE.real n l (k : Int) = some o ∧ S_IsNetwork_l2 G.real TE.real n l (k : Int) = some o ∧ (o = .ret false ∨ o = .out ())
  | [], k, _ => by rw [I_IsNetwork_l2, S_IsNetwork_l2]; exact ⟨_, rfl, rfl, Or.inr rfl⟩
  | z :: l, k, h => by
    have hk : k < n.Off.length := by
      have := congrArg List.length h
      simp at this; omega
    have ht : n.Off.drop (k + 1) = l := by
      have := congrArg List.tail h
      simpa using this
    obtain ⟨o, b1, b2, b3⟩ := net_l2 n hn l (k + 1) ht
    rw [I_IsNetwork_l2, S_IsNetwork_l2]
    simp only [lP_eq, within_r, l1In_r, br_dec, R_lt, R_sub, R_add, R_le, R_nat]
    rw [w64 (n := (k : Int) + 1) (by omega) (by omega), show (k : Int) + 1 = ((k + 1 : Nat) : Int) from by omega, b1, b2]
    by_cases c1 : 0 ≤ z ∧ z ≤ 60
    · rw [if_pos c1]
      by_cases c2 : (0 : Int) < k
      · rw [if_pos c2, w64 (n := (k : Int) - 1) (by omega) (by omega), gd_true (by omega), show ((k : Int) - 1).toNat = k - 1 from by omega, gt_some (List.getElem?_eq_getElem (show k - 1 < n.Off.length by omega))]
        split
        · exact ⟨_, rfl, rfl, Or.inl rfl⟩
        · exact ⟨o, rfl, rfl, b3⟩
      · rw [if_neg c2]; exact ⟨o, rfl, rfl, b3⟩
    · rw [if_neg c1]; exact ⟨_, rfl, rfl, Or.inl rfl⟩
structure NetOk (n : Network) : Prop where
  len : n.Legs.length ≤ 20
  legs : ∀ x ∈ n.Legs, LegOk x
  change : 0 ≤ n.Change ∧ n.Change ≤ 240
theorem net_eq (n : Network) (h : n.tot ≤ 1048576) : ∃ r, I_IsNetwork G.real TE.real n = some r ∧ S_IsNetwork G.real TE.real n = some r ∧ (r = true → NetOk n) := by
  have h2 := h
  unfold Network.tot at h2
  obtain ⟨o, a1, a2, a3⟩ := net_l1 n.Legs fun x hx => by have h3 : Leg.tot x ≤ sumT (fun y => Leg.tot y) n.Legs := sumT_mem (fun y => Leg.tot y) hx; omega
  obtain ⟨p, b1, b2, b3⟩ := net_l2 n (by omega) n.Off 0 rfl
  unfold I_IsNetwork S_IsNetwork
  rw [show (0 : Int) = ((0 : Nat) : Int) from rfl, a1, a2, b1, b2]
  simp only [cl_some, lP_eq, within_r, l1In_r, R_le, br_dec, llen_Leg, llen_I64]
  rcases a3 with rfl | ⟨rfl, a4⟩
  · exact ⟨false, rfl, rfl, fun h => by cases h⟩
  · rcases b3 with rfl | rfl
    · exact ⟨false, rfl, rfl, fun h => by cases h⟩
    · simp only [lr_out]
      by_cases c1 : (n.Legs.length : Int) ≤ 20
      · rw [if_pos c1]
        split
        · exact ⟨_, rfl, rfl, fun h => ⟨by omega, a4, by simpa using h⟩⟩
        · exact ⟨false, rfl, rfl, fun h => by cases h⟩
      · rw [if_neg c1]; exact ⟨false, rfl, rfl, fun h => by cases h⟩
def netB (n : Network) : Bool := (S_IsNetwork G.real TE.real n).getD false
theorem net_i {n : Network} (h : n.tot ≤ 1048576) : I_IsNetwork G.real TE.real n = some (netB n) := by
  obtain ⟨r, a1, a2, _⟩ := net_eq n h
  rw [a1]; unfold netB; rw [a2]; rfl
theorem net_s {n : Network} (h : n.tot ≤ 1048576) : S_IsNetwork G.real TE.real n = some (netB n) := by
  obtain ⟨r, a1, a2, _⟩ := net_eq n h
  unfold netB; rw [a2]; rfl
theorem net_ok {n : Network} (h : n.tot ≤ 1048576) (hb : netB n = true) : NetOk n := by
  obtain ⟨r, a1, a2, a3⟩ := net_eq n h
  refine a3 ?_
  unfold netB at hb; rw [a2] at hb; exact hb
/-- the leg of a number -/
def lgOf (n : Network) (l : Int) : Leg := n.Legs.getD l.toNat ⟨.empty, .empty, 0, 0, 0, 0⟩
theorem lg_get {n : Network} {l : Int} (h0 : 0 ≤ l) (h1 : l < n.Legs.length) : n.Legs[l.toNat]? = some (lgOf n l) := by
  unfold lgOf
  rw [List.getD_eq_getElem?_getD, List.getElem?_eq_getElem (by omega)]
  rfl
theorem lg_mem {n : Network} {l : Int} (h0 : 0 ≤ l) (h1 : l < n.Legs.length) : lgOf n l ∈ n.Legs := List.mem_of_getElem? (lg_get h0 h1)
end Go.Vs
/- Trips. -/
namespace Go.Vs
open Go.IntWalk
theorem band1 (a : Int) : G.real.band .i64 a 1 = 0 ∨ G.real.band .i64 a 1 = 1 := by
  have h : (BitVec.ofInt 64 a &&& BitVec.ofInt 64 1).toNat ≤ 1 := by
    rw [BitVec.toNat_and]
    exact Nat.le_trans Nat.and_le_right (by decide)
  have e : G.real.band .i64 a 1 = (((BitVec.ofInt 64 a &&& BitVec.ofInt 64 1).toNat : Nat) : Int) := w64 (n := (((BitVec.ofInt 64 a &&& BitVec.ofInt 64 1).toNat : Nat) : Int)) (by omega) (by omega)
  rw [e]
  omega
theorem runs_l1 (a : Int) (l : List Int) : I_runs_l1 G.real TE.real a l = if a ∈ l then .ret false else .out () := by
  induction l with
  | nil => rw [I_runs_l1]; simp
  | cons z l ih =>
    rw [I_runs_l1, ih]
    simp only [R_eq, br_dec]
    by_cases h : z = a
    · rw [if_pos h, if_pos (by simp [h])]
    · rw [if_neg h]
      by_cases h2 : a ∈ l
      · rw [if_pos h2, if_pos (by simp [h2])]
      · rw [if_neg h2, if_neg (by simp [h2]; exact fun e => h e.symm)]
theorem has_l1 (a : Int) (l : List Int) : S_l1Has_l1 G.real TE.real a l = if a ∈ l then .ret true else .out () := by
  induction l with
  | nil => rw [S_l1Has_l1]; simp
  | cons z l ih =>
    rw [S_l1Has_l1, ih]
    simp only [R_eq, br_dec]
    by_cases h : z = a
    · rw [if_pos h, if_pos (by simp [h])]
    · rw [if_neg h]
      by_cases h2 : a ∈ l
      · rw [if_pos h2, if_pos (by simp [h2])]
      · rw [if_neg h2, if_neg (by simp [h2]; exact fun e => h e.symm)]
theorem runs_eq (n : Network) (h : n.Legs.length ≤ 1048576) (a b : Int) : ∃ r, I_runs G.real TE.real n a b = some r ∧ S_l3Runs G.real TE.real n a b = some r ∧ (r = true → 0 ≤ a ∧ a < n.Legs.length ∧ 0 ≤ b ∧ b ≤ 60) := by
  unfold I_runs S_l3Runs S_l1Has
  simp only [lP_eq, R_lt, R_le, R_sub, llen_Leg, within_r, l1In_r, br_dec, runs_l1, has_l1, R_nat, R_eq, R_rem]
  rw [w64 (n := (n.Legs.length : Int) - 1) (by omega) (by omega)]
  by_cases c1 : a < 0
  · rw [if_pos c1, if_neg (by omega)]; exact ⟨false, rfl, rfl, fun h => by cases h⟩
  · rw [if_neg c1]
    by_cases c2 : (n.Legs.length : Int) ≤ a
    · rw [if_pos c2, if_neg (by omega)]; exact ⟨false, rfl, rfl, fun h => by cases h⟩
    · rw [if_neg c2, if_pos (c := 0 ≤ a ∧ a ≤ (n.Legs.length : Int) - 1) (by omega)]
      by_cases c3 : 0 ≤ b ∧ b ≤ 60
      · have hx : n.Legs[a.toNat]? = some n.Legs[a.toNat] := List.getElem?_eq_getElem (by omega)
        have hr : 0 ≤ b.tmod 7 := Int.tmod_nonneg _ c3.1
        rw [if_pos c3, if_pos c3, gd_true (by omega), gd_true (by omega), gt_some hx, gt_some hx, gd_true hr, gd_true hr]
        rcases band1 (G.real.shr .i64 n.Legs[a.toNat].Days (b.tmod 7)) with e | e
        · rw [e, if_pos rfl, if_neg (by decide)]; exact ⟨false, rfl, rfl, fun h => by cases h⟩
        · rw [e, if_neg (by decide), if_pos rfl]
          by_cases c4 : b ∈ n.Off
          · rw [if_pos c4, if_pos c4]; exact ⟨false, rfl, rfl, fun h => by cases h⟩
          · rw [if_neg c4, if_neg c4]; exact ⟨true, rfl, rfl, fun _ => by omega⟩
      · rw [if_neg c3, if_neg c3]; exact ⟨false, rfl, rfl, fun h => by cases h⟩
def runsB (n : Network) (a b : Int) : Bool := (S_l3Runs G.real TE.real n a b).getD false
theorem runs_i {n : Network} (h : n.Legs.length ≤ 1048576) (a b : Int) : I_runs G.real TE.real n a b = some (runsB n a b) := by
  obtain ⟨r, a1, a2, _⟩ := runs_eq n h a b
  rw [a1]; unfold runsB; rw [a2]; rfl
theorem runs_s {n : Network} (h : n.Legs.length ≤ 1048576) (a b : Int) : S_l3Runs G.real TE.real n a b = some (runsB n a b) := by
  obtain ⟨r, a1, a2, _⟩ := runs_eq n h a b
  unfold runsB; rw [a2]; rfl
theorem runs_ok {n : Network} (h : n.Legs.length ≤ 1048576) {a b : Int} (hb : runsB n a b = true) : 0 ≤ a ∧ a < n.Legs.length ∧ 0 ≤ b ∧ b ≤ 60 := by
  obtain ⟨r, a1, a2, a3⟩ := runs_eq n h a b
  refine a3 ?_
  unfold runsB at hb; rw [a2] at hb; exact hb
theorem tot_len {n : Network} (h : n.tot ≤ 1048576) : n.Legs.length ≤ 1048576 := by unfold Network.tot at h; omega
def tripB (n : Network) (q : Trip) : Bool := netB n && runsB n q.Leg q.Day
theorem trip_i {n : Network} (h : n.tot ≤ 1048576) (q : Trip) : I_IsTrip G.real TE.real n q = some (tripB n q) := by
  unfold I_IsTrip I_RunsOn tripB
  rw [net_i h, runs_i (tot_len h)]
  cases netB n <;> rfl
theorem trip_s {n : Network} (h : n.tot ≤ 1048576) (q : Trip) : S_IsTrip G.real TE.real n q = some (tripB n q) := by
  unfold S_IsTrip S_RunsOn tripB
  rw [net_s h, runs_s (tot_len h)]
  cases netB n <;> rfl
def stN (n : Network) (l d : Int) : Int := d * 1440 + (lgOf n l).Start
def enN (n : Network) (l d : Int) : Int := stN n l d + (lgOf n l).Takes
theorem st_rng {n : Network} (hn : NetOk n) {l d : Int} (h0 : 0 ≤ l) (h1 : l < n.Legs.length) (h2 : 0 ≤ d) (h3 : d ≤ 60) : d * 1440 ≤ stN n l d ∧ stN n l d ≤ 87839 ∧ stN n l d < enN n l d ∧ enN n l d ≤ 92159 := by
  have := hn.legs _ (lg_mem h0 h1)
  have h4 := this.start
  have h5 := this.takes
  unfold enN stN
  omega
theorem start_i {n : Network} (hn : NetOk n) {l d : Int} (h0 : 0 ≤ l) (h1 : l < n.Legs.length) (h2 : 0 ≤ d) (h3 : d ≤ 60) : I_starts G.real TE.real n ⟨l, d⟩ = some (stN n l d) := by
  have hr := st_rng hn h0 h1 h2 h3
  unfold I_starts
  simp only [R_nat, R_add, R_mul]
  rw [gd_true h0, gt_some (lg_get h0 h1), w64 (n := d * 1440) (by omega) (by omega), w64 (by unfold stN at hr; omega) (by unfold stN at hr; omega)]
  rfl
theorem start_s {n : Network} (hn : NetOk n) {l d : Int} (h0 : 0 ≤ l) (h1 : l < n.Legs.length) (h2 : 0 ≤ d) (h3 : d ≤ 60) : S_l3Starts G.real TE.real n ⟨l, d⟩ = some (stN n l d) := by
  have hr := st_rng hn h0 h1 h2 h3
  unfold S_l3Starts
  simp only [R_nat, R_add, R_mul]
  rw [gd_true h0, gt_some (lg_get h0 h1), w64 (n := d * 1440) (by omega) (by omega), w64 (by unfold stN at hr; omega) (by unfold stN at hr; omega)]
  rfl
theorem end_i {n : Network} (hn : NetOk n) {l d : Int} (h0 : 0 ≤ l) (h1 : l < n.Legs.length) (h2 : 0 ≤ d) (h3 : d ≤ 60) : I_ends G.real TE.real n ⟨l, d⟩ = some (enN n l d) := by
  have hr := st_rng hn h0 h1 h2 h3
  unfold I_ends
  rw [start_i hn h0 h1 h2 h3, cl_some]
  simp only [R_nat, R_add]
  rw [gd_true h0, gt_some (lg_get h0 h1), w64 (by unfold enN at hr; omega) (by unfold enN at hr; omega)]
  rfl
theorem end_s {n : Network} (hn : NetOk n) {l d : Int} (h0 : 0 ≤ l) (h1 : l < n.Legs.length) (h2 : 0 ≤ d) (h3 : d ≤ 60) : S_l3Ends G.real TE.real n ⟨l, d⟩ = some (enN n l d) := by
  have hr := st_rng hn h0 h1 h2 h3
  unfold S_l3Ends
  rw [start_s hn h0 h1 h2 h3, cl_some]
  simp only [R_nat, R_add]
  rw [gd_true h0, gt_some (lg_get h0 h1), w64 (by unfold enN at hr; omega) (by unfold enN at hr; omega)]
  rfl
end Go.Vs
