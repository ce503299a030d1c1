/- Part of the proofs of this seat's laws: Net. No condition. -/
import Derived.Test.YtilplaaijbpilaaVf
import Derived.Test.YtilplaaijbpilaaVg
import Derived.Sort.Walk0
import Derived.Test.YtilplaaijbpilaaHa
import Derived.Test.YtilplaaijbpilaaLab
import Derived.Test.YtilplaaijbpilaaLaa
import Derived.Test.YtilplaaijbpilaaLac
set_option linter.unusedVariables false
set_option linter.unusedSimpArgs false
set_option linter.unusedSectionVars false
/- Plain facts on strings: their order, what is a sorted row of them. -/
namespace Go.Vs
open Go.IntWalk
theorem ba_inj {a b : ByteArray} (h : bOf a = bOf b) : a = b := by
  have := congrArg sOf h
  rwa [sOf_bOf, sOf_bOf] at this
instance memD (x : ByteArray) : ∀ l : List ByteArray, Decidable (x ∈ l)
  | [] => .isFalse (by simp)
  | y :: l => match decEq x y, memD x l with
    | .isTrue h, _ => .isTrue (by simp [h])
    | .isFalse h, .isTrue h2 => .isTrue (by simp [h2])
    | .isFalse h, .isFalse h2 => .isFalse (by simp [h, h2])
theorem R_seqd (a b : ByteArray) : G.real.seq a b = decide (a = b) := by
  rw [R_seq, Lib.toList_data, Lib.toList_data]
  by_cases h : a = b
  · subst h; simp
  · have : ¬ a.data.toList = b.data.toList := fun e => h (ba_inj e)
    rw [decide_eq_false h]
    exact beq_false_of_ne this
def bLt (a b : ByteArray) : Prop := bOf a < bOf b
instance (a b : ByteArray) : Decidable (bLt a b) := inferInstanceAs (Decidable (bOf a < bOf b))
theorem R_slt (a b : ByteArray) : G.real.slt a b = decide (bLt a b) := by
  show Op.bytesLess a.toList b.toList = _
  rw [Go.Proofs.bytesLess_eq, Lib.toList_data, Lib.toList_data]
  rfl
theorem bLt_irrefl (a : ByteArray) : ¬ bLt a a := List.lt_irrefl _
theorem bLt_trans {a b c : ByteArray} (h1 : bLt a b) (h2 : bLt b c) : bLt a c := List.lt_trans h1 h2
theorem bLt_tri (a b : ByteArray) : bLt a b ∨ a = b ∨ bLt b a := by
  by_cases h1 : bLt a b
  · exact .inl h1
  · by_cases h2 : bLt b a
    · exact .inr (.inr h2)
    · refine .inr (.inl (ba_inj ?_))
      exact List.le_antisymm (fun h => h2 h) (fun h => h1 h)
/-- strictly sorted rows with the same members are one -/
theorem sorted_ext : ∀ {l m : List ByteArray}, l.Pairwise bLt → m.Pairwise bLt → (∀ x, x ∈ l ↔ x ∈ m) → l = m
  | [], [], _, _, _ => rfl
  | [], y :: m, _, _, h => by have := (h y).2 (by simp); simp at this
  | x :: l, [], _, _, h => by have := (h x).1 (by simp); simp at this
  | x :: l, y :: m, hl, hm, h => by
    obtain ⟨l1, l2⟩ := List.pairwise_cons.1 hl
    obtain ⟨m1, m2⟩ := List.pairwise_cons.1 hm
    have hxy : x = y := by
      have hx := (h x).1 (by simp)
      have hy := (h y).2 (by simp)
      rcases List.mem_cons.1 hx with e | hx
      · exact e
      · rcases List.mem_cons.1 hy with e | hy
        · exact e.symm
        · exact absurd (bLt_trans (l1 _ hy) (m1 _ hx)) (bLt_irrefl _)
    subst hxy
    congr 1
    refine sorted_ext l2 m2 fun z => ?_
    have hz := h z
    simp only [List.mem_cons] at hz
    constructor
    · intro hzl
      rcases hz.1 (.inr hzl) with e | e
      · subst e; exact absurd (l1 _ hzl) (bLt_irrefl _)
      · exact e
    · intro hzm
      rcases hz.2 (.inr hzm) with e | e
      · subst e; exact absurd (m1 _ hzm) (bLt_irrefl _)
      · exact e
theorem mem_srtS (l : List ByteArray) (z : ByteArray) : z ∈ srtS l ↔ z ∈ l := by
  have h : (srtS l).Perm ((l.map bOf).map sOf) := (List.mergeSort_perm _ _).map sOf
  rw [h.mem_iff, List.map_map]
  simp only [List.mem_map, Function.comp]
  constructor
  · rintro ⟨a, ha, rfl⟩; exact ha
  · intro hz; exact ⟨z, hz, rfl⟩
theorem srtS_len (l : List ByteArray) : (srtS l).length = l.length := by unfold srtS; rw [List.length_map, List.length_mergeSort, List.length_map]
theorem srtS_sorted {l : List ByteArray} (hn : l.Nodup) : (srtS l).Pairwise bLt := by
  have hp : (srtS l).Perm l := by
    have := (List.mergeSort_perm (l.map bOf) fun x y => decide (x ≤ y)).map sOf
    rw [List.map_map] at this
    have e : l.map (sOf ∘ bOf) = l := by
      conv => rhs; rw [← List.map_id l]
      rfl
    rw [e] at this
    exact this
  have hnd : (srtS l).Nodup := hp.nodup_iff.2 hn
  have hs : ((l.map bOf).mergeSort fun x y => decide (x ≤ y)).Pairwise fun a b => (decide (a ≤ b)) = true := by
    refine List.pairwise_mergeSort (fun a b c h1 h2 => ?_) (fun a b => ?_) _
    · simp only [decide_eq_true_eq] at h1 h2 ⊢; exact List.le_trans h1 h2
    · simp only [Bool.or_eq_true, decide_eq_true_eq]; exact List.le_total a b
  have hs2 : (srtS l).Pairwise fun a b => bOf a ≤ bOf b := by
    unfold srtS
    rw [List.pairwise_map]
    exact hs.imp fun h => by simpa [bOf_sOf] using h
  refine (hs2.and hnd).imp fun ⟨h1, h2⟩ => ?_
  rcases bLt_tri _ _ with h | h | h
  · exact h
  · exact absurd h h2
  · exact absurd h (fun hh => h1 hh)
/-- each once -/
def ddp : List ByteArray → List ByteArray
  | [] => []
  | x :: l => if x ∈ l then ddp l else x :: ddp l
theorem ddp_mem : ∀ (l : List ByteArray) (z : ByteArray), z ∈ ddp l ↔ z ∈ l
  | [], z => by simp [ddp]
  | x :: l, z => by
    unfold ddp
    split
    · rename_i h
      rw [ddp_mem l z, List.mem_cons]
      exact ⟨.inr, fun hh => hh.elim (fun e => e ▸ h) id⟩
    · rw [List.mem_cons, List.mem_cons, ddp_mem l z]
theorem ddp_nodup : ∀ l : List ByteArray, (ddp l).Nodup
  | [] => by simp [ddp]
  | x :: l => by
    unfold ddp
    split
    · exact ddp_nodup l
    · rename_i h
      exact List.nodup_cons.2 ⟨by rw [ddp_mem]; exact h, ddp_nodup l⟩
/-- the row of places: each once, in order -/
def srtU (l : List ByteArray) : List ByteArray := srtS (ddp l)
theorem srtU_mem (l : List ByteArray) (z : ByteArray) : z ∈ srtU l ↔ z ∈ l := by
  unfold srtU
  rw [mem_srtS, ddp_mem]
theorem srtU_sorted (l : List ByteArray) : (srtU l).Pairwise bLt := srtS_sorted (ddp_nodup l)
theorem srtU_eq {l m : List ByteArray} (h : m.Pairwise bLt) (hm : ∀ x, x ∈ m ↔ x ∈ l) : m = srtU l := sorted_ext h (srtU_sorted l) fun x => by rw [hm, srtU_mem]
theorem ddp_len : ∀ l : List ByteArray, (ddp l).length ≤ l.length
  | [] => by simp [ddp]
  | x :: l => by
    have := ddp_len l
    unfold ddp
    split <;> simp <;> omega
theorem srtU_len (l : List ByteArray) : (srtU l).length ≤ l.length := by unfold srtU; rw [srtS_len]; exact ddp_len l
/-- where a string stands; -1: nowhere -/
def ixN : List ByteArray → ByteArray → Nat
  | [], _ => 0
  | x :: l, s => if x = s then 0 else ixN l s + 1
theorem ixN_get : ∀ {l : List ByteArray} {s : ByteArray}, s ∈ l → ixN l s < l.length ∧ l[ixN l s]? = some s
  | x :: l, s, h => by
    unfold ixN
    split
    · rename_i e; subst e; simp
    · rename_i e
      have h2 := ixN_get ((List.mem_cons.1 h).resolve_left (fun hh => e hh.symm))
      simpa using h2
def ix (l : List ByteArray) (s : ByteArray) : Int := if s ∈ l then (ixN l s : Int) else -1
theorem ix_neg {l : List ByteArray} {s : ByteArray} : ix l s < 0 ↔ s ∉ l := by
  unfold ix; split <;> simp_all
theorem ix_of {l : List ByteArray} {s : ByteArray} (h : s ∈ l) : ix l s = (ixN l s : Int) := by unfold ix; rw [if_pos h]
end Go.Vs
/- Networks: places, legs. -/
namespace Go.Vs
open Go.IntWalk
theorem within_r (a b c : Int) : I_within G.real TE.real a b c = decide (b ≤ a ∧ a ≤ c) := by
  unfold I_within
  simp only [R_le, R_lt]
  by_cases h1 : b ≤ a
  · by_cases h2 : a ≤ c
    · simp [h1, h2]
    · simp [h1, h2]
  · simp [h1]
theorem l1In_r (a b c : Int) : S_l1In G.real TE.real a b c = decide (b ≤ a ∧ a ≤ c) := by
  unfold S_l1In
  simp only [R_le, R_lt]
  by_cases h1 : b ≤ a
  · by_cases h2 : a ≤ c
    · simp [h1, h2]
    · simp [h1, h2]
  · simp [h1]
theorem byte_rng (a : ByteArray) (k : Int) : 0 ≤ G.real.byte a k ∧ G.real.byte a k ≤ 255 := by
  have e : G.real.byte a k = ((a.data.getD k.toNat 0).toNat : Int) := rfl
  have := (a.data.getD k.toNat 0).toNat_lt
  rw [e]
  omega
def okB (a : ByteArray) : Nat → Nat → Bool
  | 0, _ => true
  | n + 1, k => decide (65 ≤ G.real.byte a (k : Int) ∧ G.real.byte a (k : Int) ≤ 90) && okB a n (k + 1)
theorem iPlace_l1 (a : ByteArray) (ha : a.size ≤ 1048576) : ∀ (n k : Nat), k + n = a.size → I_IsPlace_l1 G.real TE.real a n (k : Int) = if okB a n k = true then .out () else .ret false
  | 0, k, _ => by rw [I_IsPlace_l1]; rfl
  | n + 1, k, h => by
    rw [I_IsPlace_l1, okB]
    simp only [R_lt, R_add, br_dec]
    rw [w64 (by omega) (by omega), show (k : Int) + 1 = ((k + 1 : Nat) : Int) from by omega, iPlace_l1 a ha n (k + 1) (by omega)]
    by_cases h1 : G.real.byte a (k : Int) < 65
    · rw [if_pos h1, if_neg]
      simp only [Bool.and_eq_true, decide_eq_true_eq]; omega
    · rw [if_neg h1]
      by_cases h2 : 90 < G.real.byte a (k : Int)
      · rw [if_pos h2, if_neg]
        simp only [Bool.and_eq_true, decide_eq_true_eq]; omega
      · rw [if_neg h2]
        have : decide (65 ≤ G.real.byte a (k : Int) ∧ G.real.byte a (k : Int) ≤ 90) = true := by simp only [decide_eq_true_eq]; omega
        rw [this, Bool.true_and]
theorem sPlace_l1 (a : ByteArray) (ha : a.size ≤ 1048576) : ∀ (n k : Nat), k + n ≤ a.size → S_IsPlace_l1 G.real TE.real a n (k : Int) = some (if okB a n k = true then .out () else .ret false)
  | 0, k, _ => by rw [S_IsPlace_l1]; rfl
  | n + 1, k, h => by
    have hb := byte_rng a (k : Int)
    rw [S_IsPlace_l1, okB]
    simp only [R_add, lP_eq]
    rw [gd_true (by omega), w64 (n := G.real.byte a (k : Int)) (by omega) (by omega), l1In_r, br_dec, w64 (by omega) (by omega), show (k : Int) + 1 = ((k + 1 : Nat) : Int) from by omega, sPlace_l1 a ha n (k + 1) (by omega)]
    by_cases h1 : 65 ≤ G.real.byte a (k : Int) ∧ G.real.byte a (k : Int) ≤ 90
    · rw [if_pos h1]
      simp [h1]
    · rw [if_neg h1]
      simp only [h1, decide_false, Bool.false_and, Bool.false_eq_true, if_false]
theorem place_eq (a : ByteArray) (ha : a.size ≤ 1048576) : ∃ r, I_IsPlace G.real TE.real a = some r ∧ S_IsPlace G.real TE.real a = some r ∧ (r = true → a.size = 3) := by
  have cn : ∀ n : Nat, cntLt 0 (n : Int) = n := fun n => by unfold cntLt; omega
  unfold I_IsPlace S_IsPlace
  simp only [R_int, R_slen, lP_eq, R_eq, br_dec]
  rw [gd_true (by omega), cn, show (0 : Int) = ((0 : Nat) : Int) from rfl, iPlace_l1 a ha a.size 0 (by omega)]
  have e3 : (3 : Int) = ((3 : Nat) : Int) := rfl
  by_cases h3 : a.size = 3
  · have s3 := sPlace_l1 a ha 3 0 (by omega)
    cases hok : okB a a.size 0 with
    | true =>
      rw [h3] at hok
      rw [if_pos (c := (true = true)) rfl, if_pos (c := ((a.size : Int) = 3)) (by omega), e3, show cntLt ((0 : Nat) : Int) ((3 : Nat) : Int) = 3 from rfl, s3, cl_some, hok]
      exact ⟨true, by simp [h3], rfl, fun _ => h3⟩
    | false =>
      rw [h3] at hok
      rw [if_neg (c := (false = true)) (by simp), if_pos (c := ((a.size : Int) = 3)) (by omega), e3, show cntLt ((0 : Nat) : Int) ((3 : Nat) : Int) = 3 from rfl, s3, cl_some, hok]
      exact ⟨false, rfl, rfl, fun h => by cases h⟩
  · rw [if_neg (c := ((a.size : Int) = 3)) (by omega)]
    refine ⟨false, ?_, rfl, fun h => by cases h⟩
    split
    · rw [lr_out]; congr 1; simp only [decide_eq_false_iff_not]; omega
    · rfl
structure LegOk (l : Leg) : Prop where
  start : 0 ≤ l.Start ∧ l.Start ≤ 1439
  takes : 1 ≤ l.Takes ∧ l.Takes ≤ 4320
  days : 1 ≤ l.Days ∧ l.Days ≤ 127
  room : 0 ≤ l.Room ∧ l.Room ≤ 1000000
  from3 : l.From.size = 3
  to3 : l.To.size = 3
  ne : l.From ≠ l.To
theorem leg_eq (l : Leg) (hl : l.tot ≤ 1048576) : ∃ r, I_IsLeg G.real TE.real l = some r ∧ S_IsLeg G.real TE.real l = some r ∧ (r = true → LegOk l) := by
  unfold Leg.tot at hl
  obtain ⟨r1, a1, a2, a3⟩ := place_eq l.From (by omega)
  obtain ⟨r2, b1, b2, b3⟩ := place_eq l.To (by omega)
  unfold I_IsLeg S_IsLeg
  rw [a1, a2, b1, b2]
  simp only [cl_some, lP_eq, within_r, l1In_r, br_dec, R_seqd]
  cases r1 with
  | false => exact ⟨false, rfl, rfl, fun h => by cases h⟩
  | true =>
    cases r2 with
    | false => exact ⟨false, rfl, rfl, fun h => by cases h⟩
    | true =>
      rw [br_t, br_t]
      by_cases c0 : l.From = l.To
      · rw [if_pos c0]; exact ⟨false, rfl, rfl, fun h => by cases h⟩
      · rw [if_neg c0]
        by_cases d1 : 0 ≤ l.Start ∧ l.Start ≤ 1439
        · rw [if_pos d1]
          by_cases d2 : 1 ≤ l.Takes ∧ l.Takes ≤ 4320
          · rw [if_pos d2]
            by_cases d3 : 1 ≤ l.Days ∧ l.Days ≤ 127
            · rw [if_pos d3]; exact ⟨_, rfl, rfl, fun h => ⟨d1, d2, d3, by simpa using h, a3 rfl, b3 rfl, c0⟩⟩
            · rw [if_neg d3]; exact ⟨false, rfl, rfl, fun h => by cases h⟩
          · rw [if_neg d2]; exact ⟨false, rfl, rfl, fun h => by cases h⟩
        · rw [if_neg d1]; exact ⟨false, rfl, rfl, fun h => by cases h⟩
theorem net_l1 : ∀ (l : List Leg), (∀ x ∈ l, Leg.tot x ≤ 1048576) → ∃ o, I_IsNetwork_l1 G.real TE.real l = some o ∧ S_IsNetwork_l1 G.real TE.real l = some o ∧ (o = .ret false ∨ (o = .out () ∧ ∀ x ∈ l, LegOk x))
  | [], _ => by rw [I_IsNetwork_l1, S_IsNetwork_l1]; exact ⟨_, rfl, rfl, Or.inr ⟨rfl, by simp⟩⟩
  | z :: l, h => by
    obtain ⟨r, a1, a2, a3⟩ := leg_eq z (h z (by simp))
    obtain ⟨o, b1, b2, b3⟩ := net_l1 l fun x hx => h x (by simp [hx])
    rw [I_IsNetwork_l1, S_IsNetwork_l1, a1, a2, cl_some, cl_some]
    cases r with
    | true =>
      rw [br_t, br_t, b1, b2]
      refine ⟨o, rfl, rfl, ?_⟩
      rcases b3 with b3 | ⟨b3, b4⟩
      · exact Or.inl b3
      · refine Or.inr ⟨b3, fun x hx => ?_⟩
        rcases List.mem_cons.1 hx with rfl | hx
        · exact a3 rfl
        · exact b4 x hx
    | false => exact ⟨_, rfl, rfl, Or.inl rfl⟩
theorem net_l2 (n : Network) (hn : n.Off.length ≤ 1048576) : ∀ (l : List Int) (k : Nat), n.Off.drop k = l → ∃ o, I_IsNetwork_l2 G.real TE.real n l (k : Int) = some o ∧ S_IsNetwork_l2 G.real TE.real n l (k : Int) = some o ∧ (o = .ret false ∨ o = .out ())
  | [], k, _ => by rw [I_IsNetwork_l2, S_IsNetwork_l2]; exact ⟨_, rfl, rfl, Or.inr rfl⟩
  | z :: l, k, h => by
    have hk : k < n.Off.length := by
      have := congrArg List.length h
      simp at this; omega
    have ht : n.Off.drop (k + 1) = l := by
      have := congrArg List.tail h
      simpa using this
    obtain ⟨o, b1, b2, b3⟩ := net_l2 n hn l (k + 1) ht
    rw [I_IsNetwork_l2, S_IsNetwork_l2]
    simp only [lP_eq, within_r, l1In_r, br_dec, R_lt, R_sub, R_add, R_le, R_nat]
    rw [w64 (n := (k : Int) + 1) (by omega) (by omega), show (k : Int) + 1 = ((k + 1 : Nat) : Int) from by omega, b1, b2]
    by_cases c1 : 0 ≤ z ∧ z ≤ 60
    · rw [if_pos c1]
      by_cases c2 : (0 : Int) < k
      · rw [if_pos c2, w64 (n := (k : Int) - 1) (by omega) (by omega), gd_true (by omega), show ((k : Int) - 1).toNat = k - 1 from by omega, gt_some (List.getElem?_eq_getElem (show k - 1 < n.Off.length by omega))]
        split
        · exact ⟨_, rfl, rfl, Or.inl rfl⟩
        · exact ⟨o, rfl, rfl, b3⟩
      · rw [if_neg c2]; exact ⟨o, rfl, rfl, b3⟩
    · rw [if_neg c1]; exact ⟨_, rfl, rfl, Or.inl rfl⟩
structure NetOk (n : Network) : Prop where
  len : n.Legs.length ≤ 20
  legs : ∀ x ∈ n.Legs, LegOk x
  change : 0 ≤ n.Change ∧ n.Change ≤ 240
theorem net_eq (n : Network) (h : n.tot ≤ 1048576) : ∃ r, I_IsNetwork G.real TE.real n = some r ∧ S_IsNetwork G.real TE.real n = some r ∧ (r = true → NetOk n) := by
  have h2 := h
  unfold Network.tot at h2
  obtain ⟨o, a1, a2, a3⟩ := net_l1 n.Legs fun x hx => by have h3 : Leg.tot x ≤ sumT (fun y => Leg.tot y) n.Legs := sumT_mem (fun y => Leg.tot y) hx; omega
  obtain ⟨p, b1, b2, b3⟩ := net_l2 n (by omega) n.Off 0 rfl
  unfold I_IsNetwork S_IsNetwork
  rw [show (0 : Int) = ((0 : Nat) : Int) from rfl, a1, a2, b1, b2]
  simp only [cl_some, lP_eq, within_r, l1In_r, R_le, br_dec, llen_Leg, llen_I64]
  rcases a3 with rfl | ⟨rfl, a4⟩
  · exact ⟨false, rfl, rfl, fun h => by cases h⟩
  · rcases b3 with rfl | rfl
    · exact ⟨false, rfl, rfl, fun h => by cases h⟩
    · simp only [lr_out]
      by_cases c1 : (n.Legs.length : Int) ≤ 20
      · rw [if_pos c1]
        split
        · exact ⟨_, rfl, rfl, fun h => ⟨by omega, a4, by simpa using h⟩⟩
        · exact ⟨false, rfl, rfl, fun h => by cases h⟩
      · rw [if_neg c1]; exact ⟨false, rfl, rfl, fun h => by cases h⟩
def netB (n : Network) : Bool := (S_IsNetwork G.real TE.real n).getD false
theorem net_i {n : Network} (h : n.tot ≤ 1048576) : I_IsNetwork G.real TE.real n = some (netB n) := by
  obtain ⟨r, a1, a2, _⟩ := net_eq n h
  rw [a1]; unfold netB; rw [a2]; rfl
theorem net_s {n : Network} (h : n.tot ≤ 1048576) : S_IsNetwork G.real TE.real n = some (netB n) := by
  obtain ⟨r, a1, a2, _⟩ := net_eq n h
  unfold netB; rw [a2]; rfl
theorem net_ok {n : Network} (h : n.tot ≤ 1048576) (hb : netB n = true) : NetOk n := by
  obtain ⟨r, a1, a2, a3⟩ := net_eq n h
  refine a3 ?_
  unfold netB at hb; rw [a2] at hb; exact hb
/-- the leg of a number -/
def lgOf (n : Network) (l : Int) : Leg := n.Legs.getD l.toNat ⟨.empty, .empty, 0, 0, 0, 0⟩
theorem lg_get {n : Network} {l : Int} (h0 : 0 ≤ l) (h1 : l < n.Legs.length) : n.Legs[l.toNat]? = some (lgOf n l) := by
  unfold lgOf
  rw [List.getD_eq_getElem?_getD, List.getElem?_eq_getElem (by omega)]
  rfl
theorem lg_mem {n : Network} {l : Int} (h0 : 0 ≤ l) (h1 : l < n.Legs.length) : lgOf n l ∈ n.Legs := List.mem_of_getElem? (lg_get h0 h1)
end Go.Vs
/- Trips. -/
namespace Go.Vs
open Go.IntWalk
theorem band1 (a : Int) : G.real.band .i64 a 1 = 0 ∨ G.real.band .i64 a 1 = 1 := by
  have h : (BitVec.ofInt 64 a &&& BitVec.ofInt 64 1).toNat ≤ 1 := by
    rw [BitVec.toNat_and]
    exact Nat.le_trans Nat.and_le_right (by decide)
  have e : G.real.band .i64 a 1 = (((BitVec.ofInt 64 a &&& BitVec.ofInt 64 1).toNat : Nat) : Int) := w64 (n := (((BitVec.ofInt 64 a &&& BitVec.ofInt 64 1).toNat : Nat) : Int)) (by omega) (by omega)
  rw [e]
  omega
theorem runs_l1 (a : Int) (l : List Int) : I_runs_l1 G.real TE.real a l = if a ∈ l then .ret false else .out () := by
  induction l with
  | nil => rw [I_runs_l1]; simp
  | cons z l ih =>
    rw [I_runs_l1, ih]
    simp only [R_eq, br_dec]
    by_cases h : z = a
    · rw [if_pos h, if_pos (by simp [h])]
    · rw [if_neg h]
      by_cases h2 : a ∈ l
      · rw [if_pos h2, if_pos (by simp [h2])]
      · rw [if_neg h2, if_neg (by simp [h2]; exact fun e => h e.symm)]
theorem has_l1 (a : Int) (l : List Int) : S_l1Has_l1 G.real TE.real a l = if a ∈ l then .ret true else .out () := by
  induction l with
  | nil => rw [S_l1Has_l1]; simp
  | cons z l ih =>
    rw [S_l1Has_l1, ih]
    simp only [R_eq, br_dec]
    by_cases h : z = a
    · rw [if_pos h, if_pos (by simp [h])]
    · rw [if_neg h]
      by_cases h2 : a ∈ l
      · rw [if_pos h2, if_pos (by simp [h2])]
      · rw [if_neg h2, if_neg (by simp [h2]; exact fun e => h e.symm)]
theorem runs_eq (n : Network) (h : n.Legs.length ≤ 1048576) (a b : Int) : ∃ r, I_runs G.real TE.real n a b = some r ∧ S_l3Runs G.real TE.real n a b = some r ∧ (r = true → 0 ≤ a ∧ a < n.Legs.length ∧ 0 ≤ b ∧ b ≤ 60) := by
  unfold I_runs S_l3Runs S_l1Has
  simp only [lP_eq, R_lt, R_le, R_sub, llen_Leg, within_r, l1In_r, br_dec, runs_l1, has_l1, R_nat, R_eq, R_rem]
  rw [w64 (n := (n.Legs.length : Int) - 1) (by omega) (by omega)]
  by_cases c1 : a < 0
  · rw [if_pos c1, if_neg (by omega)]; exact ⟨false, rfl, rfl, fun h => by cases h⟩
  · rw [if_neg c1]
    by_cases c2 : (n.Legs.length : Int) ≤ a
    · rw [if_pos c2, if_neg (by omega)]; exact ⟨false, rfl, rfl, fun h => by cases h⟩
    · rw [if_neg c2, if_pos (c := 0 ≤ a ∧ a ≤ (n.Legs.length : Int) - 1) (by omega)]
      by_cases c3 : 0 ≤ b ∧ b ≤ 60
      · have hx : n.Legs[a.toNat]? = some n.Legs[a.toNat] := List.getElem?_eq_getElem (by omega)
        have hr : 0 ≤ b.tmod 7 := Int.tmod_nonneg _ c3.1
        rw [if_pos c3, if_pos c3, gd_true (by omega), gd_true (by omega), gt_some hx, gt_some hx, gd_true hr, gd_true hr]
        rcases band1 (G.real.shr .i64 n.Legs[a.toNat].Days (b.tmod 7)) with e | e
        · rw [e, if_pos rfl, if_neg (by decide)]; exact ⟨false, rfl, rfl, fun h => by cases h⟩
        · rw [e, if_neg (by decide), if_pos rfl]
          by_cases c4 : b ∈ n.Off
          · rw [if_pos c4, if_pos c4]; exact ⟨false, rfl, rfl, fun h => by cases h⟩
          · rw [if_neg c4, if_neg c4]; exact ⟨true, rfl, rfl, fun _ => by omega⟩
      · rw [if_neg c3, if_neg c3]; exact ⟨false, rfl, rfl, fun h => by cases h⟩
def runsB (n : Network) (a b : Int) : Bool := (S_l3Runs G.real TE.real n a b).getD false
theorem runs_i {n : Network} (h : n.Legs.length ≤ 1048576) (a b : Int) : I_runs G.real TE.real n a b = some (runsB n a b) := by
  obtain ⟨r, a1, a2, _⟩ := runs_eq n h a b
  rw [a1]; unfold runsB; rw [a2]; rfl
theorem runs_s {n : Network} (h : n.Legs.length ≤ 1048576) (a b : Int) : S_l3Runs G.real TE.real n a b = some (runsB n a b) := by
  obtain ⟨r, a1, a2, _⟩ := runs_eq n h a b
  unfold runsB; rw [a2]; rfl
theorem runs_ok {n : Network} (h : n.Legs.length ≤ 1048576) {a b : Int} (hb : runsB n a b = true) : 0 ≤ a ∧ a < n.Legs.length ∧ 0 ≤ b ∧ b ≤ 60 := by
  obtain ⟨r, a1, a2, a3⟩ := runs_eq n h a b
  refine a3 ?_
  unfold runsB at hb; rw [a2] at hb; exact hb
theorem tot_len {n : Network} (h : n.tot ≤ 1048576) : n.Legs.length ≤ 1048576 := by unfold Network.tot at h; omega
def tripB (n : Network) (q : Trip) : Bool := netB n && runsB n q.Leg q.Day
theorem trip_i {n : Network} (h : n.tot ≤ 1048576) (q : Trip) : I_IsTrip G.real TE.real n q = some (tripB n q) := by
  unfold I_IsTrip I_RunsOn tripB
  rw [net_i h, runs_i (tot_len h)]
  cases netB n <;> rfl
def stN (n : Network) (l d : Int) : Int := d * 1440 + (lgOf n l).Start
def enN (n : Network) (l d : Int) : Int := stN n l d + (lgOf n l).Takes
theorem st_rng {n : Network} (hn : NetOk n) {l d : Int} (h0 : 0 ≤ l) (h1 : l < n.Legs.length) (h2 : 0 ≤ d) (h3 : d ≤ 60) : d * 1440 ≤ stN n l d ∧ stN n l d ≤ 87839 ∧ stN n l d < enN n l d ∧ enN n l d ≤ 92159 := by
  have := hn.legs _ (lg_mem h0 h1)
  have h4 := this.start
  have h5 := this.takes
  unfold enN stN
  omega
theorem start_i {n : Network} (hn : NetOk n) {l d : Int} (h0 : 0 ≤ l) (h1 : l < n.Legs.length) (h2 : 0 ≤ d) (h3 : d ≤ 60) : I_starts G.real TE.real n ⟨l, d⟩ = some (stN n l d) := by
  have hr := st_rng hn h0 h1 h2 h3
  unfold I_starts
  simp only [R_nat, R_add, R_mul]
  rw [gd_true h0, gt_some (lg_get h0 h1), w64 (n := d * 1440) (by omega) (by omega), w64 (by unfold stN at hr; omega) (by unfold stN at hr; omega)]
  rfl
theorem start_s {n : Network} (hn : NetOk n) {l d : Int} (h0 : 0 ≤ l) (h1 : l < n.Legs.length) (h2 : 0 ≤ d) (h3 : d ≤ 60) : S_l3Starts G.real TE.real n ⟨l, d⟩ = some (stN n l d) := by
  have hr := st_rng hn h0 h1 h2 h3
  unfold S_l3Starts
  simp only [R_nat, R_add, R_mul]
  rw [gd_true h0, gt_some (lg_get h0 h1), w64 (n := d * 1440) (by omega) (by omega), w64 (by unfold stN at hr; omega) (by unfold stN at hr; omega)]
  rfl
theorem end_i {n : Network} (hn : NetOk n) {l d : Int} (h0 : 0 ≤ l) (h1 : l < n.Legs.length) (h2 : 0 ≤ d) (h3 : d ≤ 60) : I_ends G.real TE.real n ⟨l, d⟩ = some (enN n l d) := by
  have hr := st_rng hn h0 h1 h2 h3
  unfold I_ends
  rw [start_i hn h0 h1 h2 h3, cl_some]
  simp only [R_nat, R_add]
  rw [gd_true h0, gt_some (lg_get h0 h1), w64 (by unfold enN at hr; omega) (by unfold enN at hr; omega)]
  rfl
theorem end_s {n : Network} (hn : NetOk n) {l d : Int} (h0 : 0 ≤ l) (h1 : l < n.Legs.length) (h2 : 0 ≤ d) (h3 : d ≤ 60) : S_l3Ends G.real TE.real n ⟨l, d⟩ = some (enN n l d) := by
  have hr := st_rng hn h0 h1 h2 h3
  unfold S_l3Ends
  rw [start_s hn h0 h1 h2 h3, cl_some]
  simp only [R_nat, R_add]
  rw [gd_true h0, gt_some (lg_get h0 h1), w64 (by unfold enN at hr; omega) (by unfold enN at hr; omega)]
  rfl
end Go.Vs
/- The places of a network: both texts give the same row. -/
namespace Go.Vs
open Go.IntWalk
theorem hasS_iff (w : List ByteArray) (x : ByteArray) : G.real.hasS w x = true ↔ x ∈ w := by
  have e : G.real.hasS w x = hasL w x := rfl
  rw [e]
  unfold hasL
  simp
theorem putS_mem (w : List ByteArray) (x z : ByteArray) : z ∈ G.real.putS w x ↔ z ∈ w ∨ z = x := by
  have ep : G.real.putS w x = putL w x := rfl
  rw [ep]
  unfold putL
  split
  · rename_i h
    exact ⟨.inl, fun hh => hh.elim id (fun e => e ▸ h)⟩
  · simp
theorem iPl_l2 (a b : ByteArray) : ∀ (n k : Nat) (w3 w4 : List ByteArray), k + n = 2 → w4.length + n ≤ 5000000 → (∀ p, p ∈ w3 ↔ p ∈ w4) → w4.Nodup →
    ∃ u3 u4, I_PlacesOf_l2 G.real TE.real [a, b] n (k : Int) w3 w4 = some (u3, u4) ∧ (∀ p, p ∈ u3 ↔ p ∈ u4) ∧ u4.Nodup ∧ u4.length ≤ w4.length + n ∧ ∀ p, p ∈ u4 ↔ p ∈ w4 ∨ p ∈ [a, b].drop k
  | 0, k, w3, w4, hk, _, h, hn => by
    rw [I_PlacesOf_l2]
    exact ⟨w3, w4, rfl, h, hn, by omega, fun p => by rw [List.drop_of_length_le (by simp; omega)]; simp⟩
  | n + 1, k, w3, w4, hk, hl, h, hn => by
    have hkl : k < [a, b].length := by simp; omega
    have hx : [a, b][k]? = some ([a, b][k]'hkl) := List.getElem?_eq_getElem hkl
    have hd := List.drop_eq_getElem_cons hkl
    generalize [a, b][k]'hkl = x at hx hd
    rw [I_PlacesOf_l2]
    simp only [R_nat, Int.toNat_natCast, lP_eq, R_add]
    rw [gt_some hx, w64 (by omega) (by omega), show (k : Int) + 1 = ((k + 1 : Nat) : Int) from by omega]
    cases hb : G.real.hasS w3 x with
    | true =>
      have hm := (hasS_iff _ _).1 hb
      rw [br_t]
      obtain ⟨u3, u4, e1, e2, e5, e3, e4⟩ := iPl_l2 a b n (k + 1) w3 w4 (by omega) (by omega) h hn
      refine ⟨u3, u4, e1, e2, e5, by omega, fun p => ?_⟩
      rw [e4, hd]
      simp only [List.mem_cons]
      constructor
      · rintro (q | q)
        · exact .inl q
        · exact .inr (.inr q)
      · rintro (q | rfl | q)
        · exact .inl q
        · exact .inl ((h _).1 hm)
        · exact .inr q
    | false =>
      have hm : x ∉ w3 := fun hh => by rw [(hasS_iff _ _).2 hh] at hb; cases hb
      rw [br_f, gd_true (by simp only [List.length_cons, List.length_nil]; omega)]
      obtain ⟨u3, u4, e1, e2, e5, e3, e4⟩ := iPl_l2 a b n (k + 1) (G.real.putS w3 x) (w4 ++ [x]) (by omega) (by simp; omega) (fun p => by
        rw [putS_mem]; simp [h p]) (by
        rw [List.nodup_append]
        refine ⟨hn, by simp, fun y hy z hz => ?_⟩
        simp only [List.mem_singleton] at hz
        subst hz
        intro e; subst e
        exact hm ((h _).2 hy))
      refine ⟨u3, u4, e1, e2, e5, by simp at e3; omega, fun p => ?_⟩
      rw [e4, hd]
      simp only [List.mem_append, List.mem_cons, List.not_mem_nil, or_false]
      constructor
      · rintro ((q | q) | q)
        · exact .inl q
        · exact .inr (.inl q)
        · exact .inr (.inr q)
      · rintro (q | q | q)
        · exact .inl (.inl q)
        · exact .inl (.inr q)
        · exact .inr q
def ends2 (l : List Leg) : List ByteArray := l.flatMap fun x => [x.From, x.To]
theorem ends2_mem (l : List Leg) (p : ByteArray) : p ∈ ends2 l ↔ ∃ x ∈ l, p = x.From ∨ p = x.To := by
  unfold ends2
  simp [List.mem_flatMap]
theorem iPl_l1 : ∀ (l : List Leg) (w1 w2 : List ByteArray), w2.length + 2 * l.length ≤ 4194304 → (∀ p, p ∈ w1 ↔ p ∈ w2) → w2.Nodup →
    ∃ u, I_PlacesOf_l1 G.real TE.real l w1 w2 = some u ∧ u.Nodup ∧ u.length ≤ w2.length + 2 * l.length ∧ ∀ p, p ∈ u ↔ p ∈ w2 ∨ p ∈ ends2 l
  | [], w1, w2, _, _, hn => by rw [I_PlacesOf_l1]; exact ⟨w2, rfl, hn, by simp, by simp [ends2]⟩
  | z :: l, w1, w2, hl, h, hn => by
    simp only [List.length_cons] at hl
    obtain ⟨u3, u4, e1, e2, e5, e3, e4⟩ := iPl_l2 z.From z.To 2 0 w1 w2 rfl (by omega) h hn
    obtain ⟨u, f1, f4, f2, f3⟩ := iPl_l1 l u3 u4 (by omega) e2 e5
    rw [I_PlacesOf_l1]
    simp only [R_int, dlenx_S, List.length_cons, List.length_nil, lP]
    rw [gd_true (by omega), show cntLt 0 (((0 + 1 + 1 : Nat)) : Int) = 2 from rfl, show (0 : Int) = ((0 : Nat) : Int) from rfl, e1, cl_some]
    refine ⟨u, f1, f4, by omega, fun p => ?_⟩
    rw [f3, e4]
    simp only [ends2, List.flatMap_cons, List.mem_append, List.drop_zero, List.mem_cons, List.not_mem_nil, or_false, or_assoc]
/-- the places of a network -/
def plc (n : Network) : List ByteArray := srtU (ends2 n.Legs)
theorem plc_i {n : Network} (h : n.Legs.length ≤ 1048576) : I_PlacesOf G.real TE.real n = some (plc n) := by
  obtain ⟨u, e1, e4, e2, e3⟩ := iPl_l1 n.Legs [] [] (by simp; omega) (by simp) (by simp)
  simp only [List.length_nil] at e2
  unfold I_PlacesOf
  rw [lP_eq, e1, cl_some]
  unfold X_sort_Strings
  rw [gd_true (by omega), cl_some, gd_true (srtS_len u)]
  congr 1
  refine srtU_eq (srtS_sorted e4) fun x => ?_
  rw [mem_srtS, e3]
  simp
/-- a place put where it belongs -/
def cutS (p : ByteArray) : List ByteArray → Nat
  | [] => 0
  | x :: l => if bLt x p then cutS p l + 1 else 0
theorem cutS_le (p : ByteArray) : ∀ l, cutS p l ≤ l.length
  | [] => by simp [cutS]
  | x :: l => by
    have := cutS_le p l
    unfold cutS
    split <;> simp <;> omega
theorem cutS_take (p : ByteArray) : ∀ l : List ByteArray, ∀ z ∈ l.take (cutS p l), bLt z p
  | [], z, h => by simp at h
  | x :: l, z, h => by
    unfold cutS at h
    split at h
    · rename_i hx
      simp only [List.take_succ_cons, List.mem_cons] at h
      rcases h with rfl | h
      · exact hx
      · exact cutS_take p l z h
    · simp at h
theorem cutS_drop (p : ByteArray) : ∀ {l : List ByteArray}, l.Pairwise bLt → ∀ z ∈ l.drop (cutS p l), ¬ bLt z p
  | [], _, z, h => by simp at h
  | x :: l, hs, z, h => by
    obtain ⟨h1, h2⟩ := List.pairwise_cons.1 hs
    unfold cutS at h
    split at h
    · exact cutS_drop p h2 z (by simpa using h)
    · rename_i hx
      simp only [List.drop_zero, List.mem_cons] at h
      rcases h with rfl | h
      · exact hx
      · exact fun hz => hx (bLt_trans (h1 _ h) hz)
def insS (l : List ByteArray) (p : ByteArray) : List ByteArray := if l[cutS p l]? = some p then l else l.take (cutS p l) ++ p :: l.drop (cutS p l)
theorem insS_mem (l : List ByteArray) (p z : ByteArray) : z ∈ insS l p ↔ z ∈ l ∨ z = p := by
  unfold insS
  split
  · rename_i h
    exact ⟨.inl, fun hh => hh.elim id (fun e => e ▸ List.mem_of_getElem? h)⟩
  · have hm : z ∈ l ↔ z ∈ l.take (cutS p l) ∨ z ∈ l.drop (cutS p l) := by rw [← List.mem_append, List.take_append_drop]
    rw [List.mem_append, List.mem_cons, hm]
    constructor
    · rintro (h | h | h)
      · exact .inl (.inl h)
      · exact .inr h
      · exact .inl (.inr h)
    · rintro ((h | h) | h)
      · exact .inl h
      · exact .inr (.inr h)
      · exact .inr (.inl h)
theorem insS_sorted {l : List ByteArray} (p : ByteArray) (hs : l.Pairwise bLt) : (insS l p).Pairwise bLt := by
  unfold insS
  split
  · exact hs
  · rename_i hne
    have hap : l.Pairwise bLt := hs
    rw [← List.take_append_drop (cutS p l) l, List.pairwise_append] at hap
    obtain ⟨a1, a2, a3⟩ := hap
    have hd : ∀ z ∈ l.drop (cutS p l), bLt p z := fun z hz => by
      rcases bLt_tri p z with h | h | h
      · exact h
      · subst h
        exfalso
        -- p itself behind the cut: then it stands at the cut
        cases hdr : l.drop (cutS p l) with
        | nil => rw [hdr] at hz; simp at hz
        | cons y m =>
          have hy : l[cutS p l]? = some y := by
            have : (l.drop (cutS p l))[0]? = some y := by rw [hdr]; rfl
            simpa using this
          rw [hdr] at hz
          rcases List.mem_cons.1 hz with e | hz
          · subst e; exact hne hy
          · rw [hdr, List.pairwise_cons] at a2
            exact cutS_drop p hs y (by rw [hdr]; simp) (a2.1 _ hz)
      · exact absurd h (cutS_drop p hs z hz)
    rw [List.pairwise_append]
    refine ⟨a1, List.pairwise_cons.2 ⟨hd, a2⟩, fun x hx y hy => ?_⟩
    rcases List.mem_cons.1 hy with rfl | hy
    · exact cutS_take y l x hx
    · exact a3 x hx y hy
theorem insS_len (l : List ByteArray) (p : ByteArray) : (insS l p).length ≤ l.length + 1 := by
  unfold insS
  split
  · omega
  · simp; omega
theorem sPl_l2 (w : List ByteArray) (x : Leg) (hw : w.length ≤ 4194304) : ∀ (n k : Nat), k + n = w.length → S_PlacesOf_l2 G.real TE.real w x n (k : Int) = some ((k + cutS x.To (w.drop k) : Nat) : Int)
  | 0, k, h => by rw [S_PlacesOf_l2, List.drop_of_length_le (by omega)]; rfl
  | n + 1, k, h => by
    have hk : k < w.length := by omega
    rw [S_PlacesOf_l2]
    simp only [R_nat, Int.toNat_natCast, R_add, R_slt, br_dec]
    rw [gt_some (List.getElem?_eq_getElem hk), w64 (by omega) (by omega), show (k : Int) + 1 = ((k + 1 : Nat) : Int) from by omega, sPl_l2 w x hw n (k + 1) (by omega), List.drop_eq_getElem_cons hk, cutS]
    split
    · congr 2; omega
    · rfl
theorem sPl_l3 (w : List ByteArray) (x : Leg) (hw : w.length ≤ 4194304) : ∀ (n k : Nat), k + n = w.length → S_PlacesOf_l3 G.real TE.real w x n (k : Int) = some ((k + cutS x.From (w.drop k) : Nat) : Int)
  | 0, k, h => by rw [S_PlacesOf_l3, List.drop_of_length_le (by omega)]; rfl
  | n + 1, k, h => by
    have hk : k < w.length := by omega
    rw [S_PlacesOf_l3]
    simp only [R_nat, Int.toNat_natCast, R_add, R_slt, br_dec]
    rw [gt_some (List.getElem?_eq_getElem hk), w64 (by omega) (by omega), show (k : Int) + 1 = ((k + 1 : Nat) : Int) from by omega, sPl_l3 w x hw n (k + 1) (by omega), List.drop_eq_getElem_cons hk, cutS]
    split
    · congr 2; omega
    · rfl
/-- what both arms of the spec's round do -/
theorem put_arm {γ : Type} {w : List ByteArray} {p : ByteArray} (hw : w.length ≤ 4194304) {k : List ByteArray → Option γ} {k2 : Option γ} (h2 : w[cutS p w]? = some p → k2 = k w) :
    (br (decide (((cutS p w : Nat) : Int) = (w.length : Int)))
      (gd ((0 : Int) ≤ 0 ∧ 0 ≤ ((cutS p w : Nat) : Int) ∧ ((cutS p w : Nat) : Int) ≤ ((w.length : Nat) : Int)) <|
        gd (Int.toNat 0 + (Int.toNat ((cutS p w : Nat) : Int) - Int.toNat 0) ≤ w.length) <|
        gd ((([] : List ByteArray).length + (List.take (Int.toNat ((cutS p w : Nat) : Int) - Int.toNat 0) (List.drop (Int.toNat 0) w)).length) * 16 ≤ 70368744177664) <|
        gd ((([] ++ (List.take (Int.toNat ((cutS p w : Nat) : Int) - Int.toNat 0) (List.drop (Int.toNat 0) w))).length + [p].length) * 16 ≤ 70368744177664) <|
        gd ((0 : Int) ≤ ((cutS p w : Nat) : Int) ∧ ((cutS p w : Nat) : Int) ≤ (w.length : Int) ∧ (w.length : Int) ≤ ((w.length : Nat) : Int)) <|
        gd (Int.toNat ((cutS p w : Nat) : Int) + (Int.toNat (w.length : Int) - Int.toNat ((cutS p w : Nat) : Int)) ≤ w.length) <|
        gd ((([] ++ (List.take (Int.toNat ((cutS p w : Nat) : Int) - Int.toNat 0) (List.drop (Int.toNat 0) w)) ++ [p]).length + (List.take (Int.toNat (w.length : Int) - Int.toNat ((cutS p w : Nat) : Int)) (List.drop (Int.toNat ((cutS p w : Nat) : Int)) w)).length) * 16 ≤ 70368744177664) <|
        k ([] ++ (List.take (Int.toNat ((cutS p w : Nat) : Int) - Int.toNat 0) (List.drop (Int.toNat 0) w)) ++ [p] ++ (List.take (Int.toNat (w.length : Int) - Int.toNat ((cutS p w : Nat) : Int)) (List.drop (Int.toNat ((cutS p w : Nat) : Int)) w))))
      (gd ((0 : Int) ≤ ((cutS p w : Nat) : Int) ∧ ((cutS p w : Nat) : Int) < ((w.length : Nat) : Int)) <|
        gt w (Int.toNat ((cutS p w : Nat) : Int)) fun x3 =>
        br (decide (x3 = p)) k2
        (gd ((0 : Int) ≤ 0 ∧ 0 ≤ ((cutS p w : Nat) : Int) ∧ ((cutS p w : Nat) : Int) ≤ ((w.length : Nat) : Int)) <|
        gd (Int.toNat 0 + (Int.toNat ((cutS p w : Nat) : Int) - Int.toNat 0) ≤ w.length) <|
        gd ((([] : List ByteArray).length + (List.take (Int.toNat ((cutS p w : Nat) : Int) - Int.toNat 0) (List.drop (Int.toNat 0) w)).length) * 16 ≤ 70368744177664) <|
        gd ((([] ++ (List.take (Int.toNat ((cutS p w : Nat) : Int) - Int.toNat 0) (List.drop (Int.toNat 0) w))).length + [p].length) * 16 ≤ 70368744177664) <|
        gd ((0 : Int) ≤ ((cutS p w : Nat) : Int) ∧ ((cutS p w : Nat) : Int) ≤ (w.length : Int) ∧ (w.length : Int) ≤ ((w.length : Nat) : Int)) <|
        gd (Int.toNat ((cutS p w : Nat) : Int) + (Int.toNat (w.length : Int) - Int.toNat ((cutS p w : Nat) : Int)) ≤ w.length) <|
        gd ((([] ++ (List.take (Int.toNat ((cutS p w : Nat) : Int) - Int.toNat 0) (List.drop (Int.toNat 0) w)) ++ [p]).length + (List.take (Int.toNat (w.length : Int) - Int.toNat ((cutS p w : Nat) : Int)) (List.drop (Int.toNat ((cutS p w : Nat) : Int)) w)).length) * 16 ≤ 70368744177664) <|
        k ([] ++ (List.take (Int.toNat ((cutS p w : Nat) : Int) - Int.toNat 0) (List.drop (Int.toNat 0) w)) ++ [p] ++ (List.take (Int.toNat (w.length : Int) - Int.toNat ((cutS p w : Nat) : Int)) (List.drop (Int.toNat ((cutS p w : Nat) : Int)) w)))))) = k (insS w p) := by
  have hle := cutS_le p w
  have hv : [] ++ (List.take (Int.toNat ((cutS p w : Nat) : Int) - Int.toNat 0) (List.drop (Int.toNat 0) w)) ++ [p] ++ (List.take (Int.toNat (w.length : Int) - Int.toNat ((cutS p w : Nat) : Int)) (List.drop (Int.toNat ((cutS p w : Nat) : Int)) w)) = w.take (cutS p w) ++ p :: w.drop (cutS p w) := by
    simp only [Int.toNat_natCast, Int.toNat_zero, Nat.sub_zero, List.drop_zero, List.nil_append]
    rw [List.take_of_length_le (l := List.drop (cutS p w) w) (by simp)]
    simp
  have hlt : (List.take (cutS p w) w).length ≤ w.length := by simp; omega
  by_cases hc : cutS p w = w.length
  · rw [br_dec, if_pos (by omega)]
    repeat rw [gd_true (by simp; omega)]
    rw [hv]
    unfold insS
    rw [if_neg]
    rw [List.getElem?_eq_none (by omega)]
    simp
  · have hx : w[Int.toNat ((cutS p w : Nat) : Int)]? = some (w[cutS p w]'(by omega)) := by
      rw [Int.toNat_natCast]; exact List.getElem?_eq_getElem (by omega)
    rw [br_dec, if_neg (by omega), gd_true (by omega), gt_some hx, br_dec]
    by_cases he : w[cutS p w]'(by omega) = p
    · have hp : w[cutS p w]? = some p := by rw [List.getElem?_eq_getElem (by omega), he]
      rw [if_pos he, h2 hp]
      unfold insS
      rw [if_pos hp]
    · rw [if_neg he]
      repeat rw [gd_true (by simp; omega)]
      rw [hv]
      unfold insS
      rw [if_neg]
      rw [List.getElem?_eq_getElem (by omega)]
      simpa using he
def ptOf (n : Network) (v : Nat) : ByteArray := if v % 2 = 1 then (lgOf n ((v / 2 : Nat) : Int)).To else (lgOf n ((v / 2 : Nat) : Int)).From
theorem sPl_l1 (n : Network) (hn : n.Legs.length ≤ 1048576) : ∀ (m v : Nat) (w : List ByteArray), v + m = 2 * n.Legs.length → w.length ≤ v → w.Pairwise bLt →
    ∃ u, S_PlacesOf_l1 G.real TE.real n m (v : Int) w = some u ∧ u.Pairwise bLt ∧ ∀ z, z ∈ u ↔ z ∈ w ∨ ∃ j, v ≤ j ∧ j < 2 * n.Legs.length ∧ z = ptOf n j
  | 0, v, w, h, _, hs => by
    rw [S_PlacesOf_l1]
    refine ⟨w, rfl, hs, fun z => ⟨.inl, ?_⟩⟩
    rintro (h2 | ⟨j, h1, h2, _⟩)
    · exact h2
    · omega
  | m + 1, v, w, h, hl, hs => by
    have hq : Int.tdiv (v : Int) 2 = ((v / 2 : Nat) : Int) := by rw [Int.tdiv_eq_ediv_of_nonneg (by omega)]; omega
    have hr : Int.tmod (v : Int) 2 = ((v % 2 : Nat) : Int) := by rw [Int.tmod_eq_emod_of_nonneg (by omega)]; omega
    have hlt : v / 2 < n.Legs.length := by omega
    have hg : n.Legs[v / 2]? = some (lgOf n ((v / 2 : Nat) : Int)) := by
      have := lg_get (n := n) (l := ((v / 2 : Nat) : Int)) (by omega) (by omega)
      rwa [Int.toNat_natCast] at this
    obtain ⟨u, e1, e2, e3⟩ := sPl_l1 n hn m (v + 1) (insS w (ptOf n v)) (by omega) (by have := insS_len w (ptOf n v); omega) (insS_sorted _ hs)
    refine ⟨u, ?_, e2, fun z => ?_⟩
    · rw [← e1, S_PlacesOf_l1]
      simp only [R_quo, R_rem, R_add, R_nat, R_int, dlenx_S, R_eq, hq, hr, lP_eq, R_seqd, R_nsub, R_nadd]
      rw [w64 (n := ((v / 2 : Nat) : Int)) (by omega) (by omega), gd_true (by omega), Int.toNat_natCast (v / 2), gt_some hg, w64 (n := (v : Int) + 1) (by omega) (by omega), show (v : Int) + 1 = ((v + 1 : Nat) : Int) from by omega]
      have cn : cntLt 0 (w.length : Int) = w.length := by unfold cntLt; omega
      have z2 : S_PlacesOf_l2 G.real TE.real w (lgOf n ((v / 2 : Nat) : Int)) w.length 0 = some ((cutS (lgOf n ((v / 2 : Nat) : Int)).To w : Nat) : Int) := by simpa using sPl_l2 w (lgOf n ((v / 2 : Nat) : Int)) (by omega) w.length 0 (by omega)
      have z3 : S_PlacesOf_l3 G.real TE.real w (lgOf n ((v / 2 : Nat) : Int)) w.length 0 = some ((cutS (lgOf n ((v / 2 : Nat) : Int)).From w : Nat) : Int) := by simpa using sPl_l3 w (lgOf n ((v / 2 : Nat) : Int)) (by omega) w.length 0 (by omega)
      rw [gd_true (c := (0 : Int) ≤ ((v / 2 : Nat) : Int)) (by omega), gd_true (by omega), cn, z2, z3, cl_some, cl_some]
      by_cases hv : v % 2 = 1
      · have hp : ptOf n v = (lgOf n ((v / 2 : Nat) : Int)).To := by unfold ptOf; rw [if_pos hv]
        rw [br_dec, if_pos (by omega)]
        have := put_arm (γ := List ByteArray) (w := w) (p := (lgOf n ((v / 2 : Nat) : Int)).To) (by omega) (k := fun l => S_PlacesOf_l1 G.real TE.real n m ((v + 1 : Nat) : Int) l) (k2 := S_PlacesOf_l1 G.real TE.real n m ((v + 1 : Nat) : Int) w) (fun _ => rfl)
        rw [hp]
        exact this
      · have hp : ptOf n v = (lgOf n ((v / 2 : Nat) : Int)).From := by unfold ptOf; rw [if_neg hv]
        rw [br_dec, if_neg (by omega)]
        have := put_arm (γ := List ByteArray) (w := w) (p := (lgOf n ((v / 2 : Nat) : Int)).From) (by omega) (k := fun l => S_PlacesOf_l1 G.real TE.real n m ((v + 1 : Nat) : Int) l) (k2 := S_PlacesOf_l1 G.real TE.real n m ((v + 1 : Nat) : Int) w) (fun _ => rfl)
        rw [hp, gd_true (by omega)]
        exact this
    · rw [e3, insS_mem]
      constructor
      · rintro ((h1 | h1) | ⟨j, h1, h2, h3⟩)
        · exact .inl h1
        · exact .inr ⟨v, by omega, by omega, h1⟩
        · exact .inr ⟨j, by omega, h2, h3⟩
      · rintro (h1 | ⟨j, h1, h2, h3⟩)
        · exact .inl (.inl h1)
        · by_cases hj : j = v
          · subst hj; exact .inl (.inr h3)
          · exact .inr ⟨j, by omega, h2, h3⟩
theorem plc_s {n : Network} (h : n.Legs.length ≤ 1048576) : S_PlacesOf G.real TE.real n = some (plc n) := by
  obtain ⟨u, e1, e2, e3⟩ := sPl_l1 n h (2 * n.Legs.length) 0 [] (by omega) (by simp) (by simp)
  unfold S_PlacesOf
  simp only [lP_eq, R_mul, llen_Leg]
  have cn : cntLt 0 (2 * (n.Legs.length : Int)) = 2 * n.Legs.length := by unfold cntLt; omega
  rw [w64 (by omega) (by omega), gd_true (by omega), cn, show (0 : Int) = ((0 : Nat) : Int) from rfl, e1, cl_some]
  congr 1
  refine srtU_eq e2 fun z => ?_
  rw [e3, ends2_mem]
  simp only [List.not_mem_nil, false_or]
  constructor
  · rintro ⟨j, _, h2, h3⟩
    have hm : lgOf n ((j / 2 : Nat) : Int) ∈ n.Legs := lg_mem (by omega) (by omega)
    unfold ptOf at h3
    split at h3
    · exact ⟨_, hm, .inr h3⟩
    · exact ⟨_, hm, .inl h3⟩
  · rintro ⟨x, hx, hz⟩
    obtain ⟨i, hi, rfl⟩ := List.getElem_of_mem hx
    have hlg : lgOf n ((i : Nat) : Int) = n.Legs[i] := by
      have := lg_get (n := n) (l := ((i : Nat) : Int)) (by omega) (by omega)
      rw [Int.toNat_natCast, List.getElem?_eq_getElem hi] at this
      exact (Option.some.inj this).symm
    rcases hz with hz | hz
    · refine ⟨2 * i, by omega, by omega, ?_⟩
      unfold ptOf
      rw [if_neg (by omega), show 2 * i / 2 = i by omega, hlg]; exact hz
    · refine ⟨2 * i + 1, by omega, by omega, ?_⟩
      unfold ptOf
      rw [if_pos (by omega), show (2 * i + 1) / 2 = i by omega, hlg]; exact hz
theorem plc_mem (n : Network) (z : ByteArray) : z ∈ plc n ↔ ∃ x ∈ n.Legs, z = x.From ∨ z = x.To := by unfold plc; rw [srtU_mem, ends2_mem]
theorem plc_len (n : Network) : (plc n).length ≤ 2 * n.Legs.length := by
  refine Nat.le_trans (srtU_len _) ?_
  unfold ends2
  induction n.Legs with
  | nil => simp
  | cons x l ih => simp only [List.flatMap_cons, List.length_append, List.length_cons, List.length_nil]; omega
theorem pAt_l1 (s : ByteArray) : ∀ (l : List ByteArray) (v : Int), 0 ≤ v → v + l.length ≤ 4194304 → I_placeAt_l1 G.real TE.real s l v = if s ∈ l then .ret (v + ixN l s) else .out ()
  | [], v, _, _ => by rw [I_placeAt_l1]; simp
  | z :: l, v, h0, h1 => by
    simp only [List.length_cons] at h1
    rw [I_placeAt_l1]
    simp only [R_seqd, R_add, br_dec]
    rw [w64 (by omega) (by omega), pAt_l1 s l (v + 1) (by omega) (by omega)]
    by_cases h : z = s
    · rw [if_pos h, if_pos (by simp [h])]
      unfold ixN
      rw [if_pos h]; simp
    · rw [if_neg h]
      by_cases hm : s ∈ l
      · rw [if_pos hm, if_pos (by simp [hm])]
        congr 1
        conv => rhs; unfold ixN
        rw [if_neg h]; omega
      · rw [if_neg hm, if_neg (by simp [hm]; exact fun e => h e.symm)]
theorem pAt_i {l : List ByteArray} (h : l.length ≤ 4194304) (s : ByteArray) : I_placeAt G.real TE.real l s = ix l s := by
  unfold I_placeAt
  rw [pAt_l1 s l 0 (by omega) (by omega), lP_eq]
  unfold ix
  split <;> simp
theorem sAt_l1 (s : ByteArray) : ∀ (l : List ByteArray) (v : Int), S_l4Index_l1 G.real TE.real s l v = I_placeAt_l1 G.real TE.real s l v
  | [], v => by rw [S_l4Index_l1, I_placeAt_l1]
  | z :: l, v => by rw [S_l4Index_l1, I_placeAt_l1, sAt_l1 s l]
theorem pAt_s {l : List ByteArray} (h : l.length ≤ 4194304) (s : ByteArray) : S_l4Index G.real TE.real l s = ix l s := by
  rw [← pAt_i h s]
  unfold S_l4Index I_placeAt
  rw [sAt_l1]
end Go.Vs
/- Finders: what a call of one gives. -/
namespace Go.Vs
open Go.IntWalk
/-- the first of some days that will do -/
def fdD (p : Int → Bool) : Nat → Int → Option Int
  | 0, _ => none
  | n + 1, v => if p v = true then some v else fdD p n (v + 1)
theorem fdD_spec {p : Int → Bool} : ∀ {n : Nat} {v d : Int}, fdD p n v = some d → p d = true ∧ v ≤ d ∧ d < v + n
  | n + 1, v, d, h => by
    unfold fdD at h
    split at h
    · rename_i hp; cases h; exact ⟨hp, by omega, by omega⟩
    · obtain ⟨h1, h2, h3⟩ := fdD_spec h; exact ⟨h1, by omega, by omega⟩
def tbO (l : Int) : Option Int → Trip × Bool
  | some d => (⟨l, d⟩, true)
  | none => (⟨0, 0⟩, false)
def dyO : Option Int → Int
  | some d => d
  | none => -1
def pN (n : Network) (l at_ : Int) (d : Int) : Bool := runsB n l d && decide (at_ ≤ stN n l d)
/-- what is known of a finder: it gives trips of the network that start late enough -/
structure Find (fd : Fd) (n : Network) (f : Int → Int → Option Int) : Prop where
  call : ∀ l a, callFd G.real TE.real fd l a = some (tbO l (f l a))
  ok : ∀ {l a d}, f l a = some d → runsB n l d = true ∧ a ≤ stN n l d
end Go.Vs
