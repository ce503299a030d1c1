/- Part of the proofs of this seat's laws: Lac. No condition. -/
import Derived.Test.YtilplaaijbpilaaVg
import Derived.Test.YtilplaaijbpilaaTy
import Derived.Test.YtilplaaijbpilaaProg
import Derived.Shelf.Sort.AssemblysIn
import Derived.Shelf.Sort.So_math_bits_LenInS
import Derived.Shelf.Lay
import Derived.Sort.EveryDepth
import Derived.Lib.Walk
import Derived.LoopN
import Derived.Test.YtilplaaijbpilaaTIRall
import Derived.Test.YtilplaaijbpilaaLab
import Derived.Lib.Strings
import Derived.Lib.Slices
import Derived.Lib.Bytealg
set_option linter.unusedVariables false
set_option linter.unusedSimpArgs false
set_option linter.unusedSectionVars false
namespace Go.Proofs
open Go.RowKit Go.Sort
set_option maxHeartbeats 2000000
set_option maxRecDepth 100000
def Try.lays192_ren : Go.Shelf.Ren := ⟨fun | 192 => 101 | 190 => 110 | 125 => 115 | 258 => 114 | 128 => 127 | 129 => 128 | 302 => 118 | 303 => 119 | 304 => 120 | 305 => 121 | 306 => 122 | 307 => 123 | 308 => 124 | 309 => 125 | 310 => 126 | 333 => 129 | 329 => 130 | 330 => 131 | 334 => 132 | 335 => 133 | 336 => 134 | 344 => 135 | n => n, fun | 31 => 75 | 0 => 0 | 9 => 9 | 3 => 3 | 46 => 132 | 51 => 144 | 53 => 146 | 4 => 4 | 183 => 136 | 182 => 135 | 131 => 141 | 5 => 5 | 218 => 147 | 222 => 151 | 228 => 153 | 229 => 154 | n => n, fun | n => n⟩
theorem Try.lays192 : Go.Proofs.Lays.n192 Try.prog Try.lays192_ren := {
  mixed := by kernel_rfl
  f125 := Try.func115.trans (congrArg some (by kernel_rfl))
  f128 := Try.func127.trans (congrArg some (by kernel_rfl))
  f129 := Try.func128.trans (congrArg some (by kernel_rfl))
  f190 := Try.func110.trans (congrArg some (by kernel_rfl))
  f192 := Try.func101.trans (congrArg some (by kernel_rfl))
  f258 := Try.func114.trans (congrArg some (by kernel_rfl))
  f302 := Try.func118.trans (congrArg some (by kernel_rfl))
  f303 := Try.func119.trans (congrArg some (by kernel_rfl))
  f304 := Try.func120.trans (congrArg some (by kernel_rfl))
  f305 := Try.func121.trans (congrArg some (by kernel_rfl))
  f306 := Try.func122.trans (congrArg some (by kernel_rfl))
  f307 := Try.func123.trans (congrArg some (by kernel_rfl))
  f308 := Try.func124.trans (congrArg some (by kernel_rfl))
  f309 := Try.func125.trans (congrArg some (by kernel_rfl))
  f310 := Try.func126.trans (congrArg some (by kernel_rfl))
  f329 := Try.func130.trans (congrArg some (by kernel_rfl))
  f330 := Try.func131.trans (congrArg some (by kernel_rfl))
  f333 := Try.func129.trans (congrArg some (by kernel_rfl))
  f334 := Try.func132.trans (congrArg some (by kernel_rfl))
  f335 := Try.func133.trans (congrArg some (by kernel_rfl))
  f336 := Try.func134.trans (congrArg some (by kernel_rfl))
  f344 := Try.func135.trans (congrArg some (by kernel_rfl))
  t0 := Try.underlying0
  a0 := Try.isAgg0
  z0 := Try.sizeOf0
  v0 := Try.zeroValue0
  t3 := Try.underlying3
  a3 := Try.isAgg3
  z3 := Try.sizeOf3
  v3 := Try.zeroValue3
  t4 := Try.underlying4
  a4 := Try.isAgg4
  z4 := Try.sizeOf4
  v4 := Try.zeroValue4
  t5 := Try.underlying5
  a5 := Try.isAgg5
  z5 := Try.sizeOf5
  v5 := Try.zeroValue5
  t9 := Try.underlying9
  a9 := Try.isAgg9
  z9 := Try.sizeOf9
  v9 := Try.zeroValue9
  t31 := Try.underlying75
  a31 := Try.isAgg75
  z31 := Try.sizeOf75
  v31 := Try.zeroValue75
  t46 := Try.underlying132
  a46 := Try.isAgg132
  z46 := Try.sizeOf132
  v46 := Try.zeroValue132
  t51 := Try.underlying144
  a51 := Try.isAgg144
  z51 := Try.sizeOf144
  v51 := Try.zeroValue144
  t53 := Try.underlying146
  a53 := Try.isAgg146
  z53 := Try.sizeOf146
  v53 := Try.zeroValue146
  t131 := Try.underlying141
  a131 := Try.isAgg141
  z131 := Try.sizeOf141
  v131 := Try.zeroValue141
  t182 := Try.underlying135
  a182 := Try.isAgg135
  z182 := Try.sizeOf135
  v182 := Try.zeroValue135
  t183 := Try.underlying136
  a183 := Try.isAgg136
  z183 := Try.sizeOf136
  v183 := Try.zeroValue136
  t218 := Try.underlying147
  a218 := Try.isAgg147
  z218 := Try.sizeOf147
  v218 := Try.zeroValue147
  t222 := Try.underlying151
  a222 := Try.isAgg151
  z222 := Try.sizeOf151
  v222 := Try.zeroValue151
  t228 := Try.underlying153
  a228 := Try.isAgg153
  z228 := Try.sizeOf153
  v228 := Try.zeroValue153
  t229 := Try.underlying154
  a229 := Try.isAgg154
  z229 := Try.sizeOf154
  v229 := Try.zeroValue154 }
theorem Try.insS_nil (p : Option Addr) (cap : Nat) (w : World) :
    Calls Try.prog 118 #[.slice p 0 cap, .int .i64 0, .int .i64 0] w fun e w' => e = .returned (.tuple #[]) ∧ w' = w := by
  go_enter Try.func118, Try.ntmps118
  go_wp2
  refine wp_loop_rounds 1 ?_
  rw [rounds_succ]
  go_wp2
  go_end0
  exact ⟨rfl, rfl⟩
theorem Try.pdqS_nil (p : Option Addr) (cap : Nat) (w : World) :
    Calls Try.prog 114 #[.slice p 0 cap, .int .i64 0, .int .i64 0, .int .i64 0] w fun e w' => e = .returned (.tuple #[]) ∧ w' = w := by
  go_enter Try.func114, Try.ntmps114
  go_wp2
  refine wp_loop_rounds 1 ?_
  rw [rounds_succ]
  go_wp2_with (first | (go_at_call 118; refine (Try.insS_nil p cap _).mono ?_; rintro e w' ⟨rfl, rfl⟩))
  refine bodyPost_ret (results_none rfl _ _ _) rfl ?_
  exact ⟨rfl, rfl⟩
theorem Try.sortS_nil (p : Option Addr) (cap : Nat) (w : World) :
    Calls Try.prog 110 #[.slice p 0 cap] w fun e w' => e = .returned (.tuple #[]) ∧ w' = w := by
  have hLen : ∀ w, Calls Try.prog 115 #[.int .u64 0] w fun e w' => e = .returned (.int .i64 0) ∧ w' = w := fun w => calls_of_every_depth fun D => AnyS.bits_LenInS { Try.lays192 with } D 0 w (by omega) (by omega)
  go_enter Try.func110, Try.ntmps110
  go_wp2_with (first
    | (go_at_call 115; refine (hLen _).mono ?_; rintro e w' ⟨rfl, rfl⟩)
    | (go_at_call 114; refine (Try.pdqS_nil p cap _).mono ?_; rintro e w' ⟨rfl, rfl⟩))
  go_end0
  exact ⟨rfl, rfl⟩
theorem Try.strs_nil (p : Option Addr) (cap : Nat) (w : World) :
    Calls Try.prog 101 #[.slice p 0 cap] w fun e w' => e = .returned (.tuple #[]) ∧ w' = w := by
  go_enter Try.func101, Try.ntmps101
  go_wp2_with (first | (go_at_call 110; refine (Try.sortS_nil p cap _).mono ?_; rintro e w' ⟨rfl, rfl⟩))
  go_end0
  exact ⟨rfl, rfl⟩
end Go.Proofs
namespace Go.Vs
open Go.Proofs Go.RowKit
set_option linter.unusedVariables false
def X_sort_Strings (g : G) (t : TE) (a0 : List ByteArray) : Option (List ByteArray) := gd (a0.length < 4611686018427387904) <| some (srtS a0)
theorem c_X_sort_Strings {g : G} {t : TE} {a0 r : List ByteArray} (hg : g = G.real) (ht : t = TE.real) (h : X_sort_Strings g t a0 = some r) : FnM Try.prog 101 (.m (.o 1 (t.d_S a0))) [] (.u []) (.m (.o 1 (t.d_S r))) := by
  obtain ⟨hl, h⟩ := of_gd h
  cases h
  subst ht
  exact fnM_sortS a0 hl (fun blk cap w hH hb => calls_of_every_depth fun D => AnyS.sort_Strings_in Try.lays192 D blk 0 cap (a0.map bOf) w hH hb (by simpa using hl)) (fun e w => Try.strs_nil none 0 w)
end Go.Vs
namespace Go.Vs
set_option maxRecDepth 100000
def ir72 : J :=
  .seq (.reg none [⟨(some 1), none, .box (.t 0)⟩,
     ⟨(some 2), none, .mv (.k (.c (.n 1)))⟩] [1])
  (.seq (.reg none [⟨(some 9), none, .mkm true⟩,
     ⟨(some 3), none, .mv (.t 9)⟩] [1, 3])
  (.seq (.reg none [⟨(some 10), none, .bsl 1 []⟩,
     ⟨(some 4), none, .mv (.t 10)⟩] [1, 3, 4])
  (.seq (.seq (.reg none [⟨(some 11), none, .fa 0 (.t 1)⟩,
      ⟨(some 12), none, .ld false 1 (.t 11)⟩,
      ⟨(some 13), none, .len false (.t 12)⟩,
      ⟨(some 14), none, .mv (.k (V.i 0))⟩] [3, 4, 12, 13, 14])
   (.bl 0 (.seq (.reg none [⟨(some 15), none, .bin .lss .i (.t 14) (.t 13)⟩] [3, 4, 12, 13, 14, 15])
    (.seq (.cond (.t 15)
      (.skip)
      (.exit 0))
    (.seq (.block 1 (.seq (.reg none [⟨(some 16), none, .ia 6 (.t 12) (.t 14)⟩,
         ⟨(some 17), none, .ld true 6 (.t 16)⟩,
         ⟨(some 6), none, .alloc [.r (.v (.string .empty)), .r (.v (.string .empty)), .r (.v (.int .i64 0)), .r (.v (.int .i64 0)), .r (.v (.int .i64 0)), .r (.v (.int .i64 0))]⟩,
         ⟨none, none, .st 6 (.t 6) (.t 17)⟩] [3, 4, 6, 12, 13, 14])
      (.seq (.reg none [⟨(some 18), none, .fa 0 (.t 6)⟩,
         ⟨(some 19), none, .ld false 1 (.t 18)⟩,
         ⟨(some 20), none, .fa 1 (.t 6)⟩,
         ⟨(some 21), none, .ld false 1 (.t 20)⟩,
         ⟨(some 22), none, .bsl 1 [(.t 19), (.t 21)]⟩,
         ⟨(some 23), none, .len false (.t 22)⟩,
         ⟨(some 24), none, .mv (.k (V.i 0))⟩] [3, 4, 12, 13, 14, 22, 23, 24])
      (.bl 2 (.seq (.reg none [⟨(some 25), none, .bin .lss .i (.t 24) (.t 23)⟩] [3, 4, 12, 13, 14, 22, 23, 24, 25])
       (.seq (.cond (.t 25)
         (.skip)
         (.exit 2))
       (.seq (.block 3 (.seq (.reg none [⟨(some 26), none, .ia 1 (.t 22) (.t 24)⟩,
            ⟨(some 27), none, .ld false 1 (.t 26)⟩,
            ⟨(some 8), none, .mv (.t 27)⟩] [3, 4, 8, 12, 13, 14, 22, 23, 24])
         (.seq (.reg none [⟨(some 28), none, .mv (.t 3)⟩,
            ⟨(some 29), none, .mv (.t 8)⟩,
            ⟨(some 30), none, .mlk true (.t 28) (.t 29)⟩,
            ⟨(some 31), none, .not (.t 30)⟩] [3, 4, 8, 12, 13, 14, 22, 23, 24, 31])
         (.cond (.t 31)
          (.seq (.reg none [⟨(some 32), none, .mv (.t 3)⟩,
              ⟨(some 33), none, .mv (.t 8)⟩,
              ⟨none, none, .mup true (.t 32) (.t 33)⟩] [3, 4, 8, 12, 13, 14, 22, 23, 24])
           (.reg none [⟨(some 34), none, .mv (.t 4)⟩,
             ⟨(some 35), none, .mv (.t 8)⟩,
             ⟨(some 36), none, .bsl 1 [(.t 35)]⟩,
             ⟨(some 37), none, .app 1 16 true (.t 34) (.t 36)⟩,
             ⟨(some 4), none, .mv (.t 37)⟩] [3, 4, 12, 13, 14, 22, 23, 24]))
          (.skip)))))
       (.reg none [⟨(some 38), none, .bin .add .i (.t 24) (.k (V.i 1))⟩,
         ⟨(some 24), none, .mv (.t 38)⟩] [3, 4, 12, 13, 14, 22, 23, 24]))))))))
    (.reg none [⟨(some 39), none, .bin .add .i (.t 14) (.k (V.i 1))⟩,
      ⟨(some 14), none, .mv (.t 39)⟩] [3, 4, 12, 13, 14]))))))
  (.seq (.reg none [⟨(some 40), none, .mv (.t 4)⟩,
     ⟨(some 41), none, .callm 101 (.t 40) []⟩] [4])
  (.seq (.reg none [⟨(some 42), none, .mv (.t 4)⟩,
     ⟨(some 2), none, .mv (.t 42)⟩] [2])
  (.ret))))))
def rv72 : List RV := [.t 2]
open Go.Proofs Go.IntWalk
set_option linter.unusedVariables false
set_option maxRecDepth 100000
set_option maxHeartbeats 4000000
def I_PlacesOf_l2 (g : G) (t : TE) (l2 : List ByteArray) : Nat → Int → List ByteArray → List ByteArray → Option ((List ByteArray) × List ByteArray)
  | 0, v2, w3, w4 =>
    some (w3, w4)
  | n2 + 1, v2, w3, w4 =>
    gt l2 (g.nat v2) fun x1 =>
    br (g.hasS w3 x1)
    (
     I_PlacesOf_l2 g t l2 n2 (g.wrap .i64 (g.add v2 1)) w3 w4)
    (
     lP ([x1]) fun (l3 : List ByteArray) =>
     gd (((w4.length + l3.length) * 16 ≤ 70368744177664)) <|
     lP (w4 ++ l3) fun (l4 : List ByteArray) =>
     I_PlacesOf_l2 g t l2 n2 (g.wrap .i64 (g.add v2 1)) (g.putS w3 x1) l4)
def I_PlacesOf_l1 (g : G) (t : TE) : List Leg → List ByteArray → List ByteArray → Option (List ByteArray)
  | [], w1, w2 =>
    some w2
  | z1 :: ls1, w1, w2 =>
    lP ([z1.From, z1.To]) fun (l2 : List ByteArray) =>
    gd (((g.int (g.dlen (t.d_S l2))) ≤ 9223372036854775807)) <|
    cl (I_PlacesOf_l2 g t l2 (cntLt 0 (g.int (g.dlen (t.d_S l2)))) 0 w1 w2) fun y1 =>
    I_PlacesOf_l1 g t ls1 y1.1 y1.2
def I_PlacesOf (g : G) (t : TE) (a0 : Network) : Option (List ByteArray) :=
  lP ([]) fun (l1 : List ByteArray) =>
  cl (I_PlacesOf_l1 g t a0.Legs [] l1) fun y2 =>
  cl (X_sort_Strings g t y2) fun x2 =>
  gd ((x2.length = y2.length)) <|
  some x2
theorem fit72 : codeFit Try.prog Try.f72.ntmps (Try.f72.body.getD .skip) ir72 = true := by kernel_rfl
theorem c_I_PlacesOf {g : G} {t : TE} {a0 : Network} {r : List ByteArray} (hg : g = G.real) (ht : t = TE.real) (h : I_PlacesOf g t a0 = some r) : Fn Try.prog 72 [.g (Network.rs t a0)] (.c (.o 1 (t.d_S r))) := by
  obtain ⟨X, hX⟩ := hide (.c (.o 1 (t.d_S r)) : X)
  rw [← hX]
  refine fn_of (rvs := rv72) (j := ir72) Try.func72 rfl fit72 (Nat.le_of_ble_eq_true rfl) (by kernel_rfl) prog_mixed ?_
  intro g2 F hg2 hF
  obtain rfl : g2 = g := hg2.unique.trans hg.symm
  clear hg2
  obtain ⟨wrap, lt, le, eq, quo, rem, band, bor, bxor, shl, shr, nat, int, add, sub, mul, cat, seq, slt, sub3, byte, llen, nadd, nsub, dlen, dapp, dset, drep, rd, rda, up, rsub, dsub, all, sle, slen, hasI, putI, hasS, putS, imin, imax, fzc, bstr⟩ := g2
  obtain ⟨r_Leg, d_Leg, r_I64, d_I64, r_Booking, d_Booking, r_Trip, d_Trip, r_S, d_S, r_LI64, d_LI64, r_U8, d_U8, r_Fd⟩ := t
  obtain ⟨a0_Legs, a0_Off, a0_Change⟩ := a0
  unfold I_PlacesOf at h
  try dsimp only at h
  cbv
  obtain ⟨l1, hl1, h⟩ := of_lP h
  try dsimp only at h
  refine ANew.mk (d_S l1) (dlen (d_S l1)) (by rw [← hl1]; exact lit_S hg ht []) (by rw [← hl1]; exact litn_S hg ht []) ?_
  cbv
  obtain ⟨o1, ho1, h⟩ := of_cl h
  try dsimp only at h
  try rw [hg] at ho1
  try rw [ht] at ho1
  refine ABL.mk { p : Nat × Int × (List ByteArray) × List ByteArray // p.1 ≤ a0_Legs.length ∧ p.2.1 = ((p.1 : Nat) : Int) ∧ I_PlacesOf_l1 G.real TE.real (List.drop p.1 a0_Legs) p.2.2.1 p.2.2.2 = some o1 } (fun ⟨⟨k1, v1, w1, w2⟩, _⟩ => ({ sl := [(3, .c (.m 0)), (4, .c (.f 1 1 0 (dlen (d_S w2)))), (12, .c (.r (.s 6 (r_Leg a0_Legs)))), (13, .c (.r (.v (.int .i64 (llen (r_Leg a0_Legs)))))), (14, .c (.r (.v (.int .i64 v1))))], tab := [(0, some (.ms w1)), (1, some (.arr 1 (d_S w2)))] } : St)) 2 (fun p => a0_Legs.length - p.1.1) ⟨(0, 0, [], l1), Nat.zero_le _, rfl, ho1⟩ (List ByteArray) (fun y2 => ({ sl := [(4, .c (.f 0 1 0 (dlen (d_S y2))))], tab := [(0, some (.arr 1 (d_S y2)))] } : St)) 1 (fun y => o1 = y) ?_ ?_ ?_
  · refine Wk.of [(0, some 32), (1, some 64)] rfl rfl ?_ ?_
    · cbv
      all_goals exact ⟨⟨_, rfl, rfl⟩, ⟨_, rfl, rfl⟩, ⟨_, rfl, rfl⟩, ⟨_, rfl, rfl⟩, ⟨_, rfl, rfl⟩, trivial⟩
    · cbv
      all_goals exact ⟨⟨_, rfl, rfl⟩, ⟨_, rfl, rfl⟩, trivial⟩
  · rintro ⟨⟨k1, v1, w1, w2⟩, hk1, hi1, h_1⟩ hq1
    have hm1 := (hq1.1 12 _ _ rfl)
    try dsimp only at hk1 hi1 h_1
    clear hq1
    cbv
    by_cases hc1_ : k1 < a0_Legs.length
    · have hb1 : lt v1 (llen (r_Leg a0_Legs)) = true := ltL_true_Leg hg ht hi1 hc1_
      have hs1 := stepL_Leg hg ht hi1 hc1_ hm1
      obtain ⟨z1, hz1⟩ := some_of_lt hc1_
      rw [drop_of_some hz1] at h_1
      rw [I_PlacesOf_l1] at h_1
      obtain ⟨z1_From, z1_To, z1_Start, z1_Takes, z1_Days, z1_Room⟩ := z1
      try rw [← hg] at h_1
      try rw [← ht] at h_1
      try dsimp only at h_1
      rw [hb1]
      cbv
      refine AStep.mk (nn_L hi1) ?_
      cbv
      refine AGet.mk _ (r_getL_Leg hg ht hi1 hz1) ?_
      cbv
      obtain ⟨l2, hl2, h_1⟩ := of_lP h_1
      try dsimp only at h_1
      refine ANew.mk (d_S l2) (dlen (d_S l2)) (by rw [← hl2]; exact lit_S hg ht [z1_From, z1_To]) (by rw [← hl2]; exact litn_S hg ht [z1_From, z1_To]) ?_
      cbv
      obtain ⟨hB2, h_1⟩ := of_gd h_1
      obtain ⟨o2, ho2, h_1⟩ := of_cl h_1
      try dsimp only at h_1
      try rw [hg] at ho2
      try rw [ht] at ho2
      refine ABL.mk { p : Nat × Int × (List ByteArray) × List ByteArray // p.1 = cntLt p.2.1 (int (dlen (d_S l2))) ∧ 0 ≤ p.2.1 ∧ I_PlacesOf_l2 G.real TE.real l2 p.1 p.2.1 p.2.2.1 p.2.2.2 = some o2 } (fun ⟨⟨n2, v2, w3, w4⟩, _⟩ => ({ sl := [(3, .c (.m 0)), (4, .c (.f 1 1 0 (dlen (d_S w4)))), (12, .c (.r (.s 6 (r_Leg a0_Legs)))), (13, .c (.r (.v (.int .i64 (llen (r_Leg a0_Legs)))))), (14, .c (.r (.v (.int .i64 v1)))), (22, .c (.f 2 1 0 (dlen (d_S l2)))), (23, .c (.r (.v (.int .i64 (int (dlen (d_S l2))))))), (24, .c (.r (.v (.int .i64 v2))))], tab := [(0, some (.ms w3)), (1, some (.arr 1 (d_S w4))), (2, some (.arr 1 (d_S l2)))] } : St)) 3 (fun p => p.1.1) ⟨(cntLt 0 (int (dlen (d_S l2))), 0, w1, w2), rfl, Int.le_refl _, ho2⟩ ((List ByteArray) × List ByteArray) (fun ⟨y1_1, y1_2⟩ => ({ sl := [(3, .c (.m 0)), (4, .c (.f 1 1 0 (dlen (d_S y1_2)))), (12, .c (.r (.s 6 (r_Leg a0_Legs)))), (13, .c (.r (.v (.int .i64 (llen (r_Leg a0_Legs)))))), (14, .c (.r (.v (.int .i64 v1))))], tab := [(0, some (.ms y1_1)), (1, some (.arr 1 (d_S y1_2)))] } : St)) 2 (fun y => o2 = y) ?_ ?_ ?_
      · refine Wk.of [(0, some 0), (1, some 1), (2, some 146)] rfl rfl ?_ ?_
        · cbv
          all_goals exact ⟨⟨_, rfl, rfl⟩, ⟨_, rfl, rfl⟩, ⟨_, rfl, rfl⟩, ⟨_, rfl, rfl⟩, ⟨_, rfl, rfl⟩, ⟨_, rfl, rfl⟩, ⟨_, rfl, rfl⟩, ⟨_, rfl, rfl⟩, trivial⟩
        · cbv
          all_goals exact ⟨⟨_, rfl, rfl⟩, ⟨_, rfl, rfl⟩, ⟨_, rfl, rfl⟩, trivial⟩
      · rintro ⟨⟨n2, v2, w3, w4⟩, hn2, hi2, h_2⟩ hq2
        try dsimp only at hn2 hi2 h_2
        clear hq2
        cbv
        rcases n2 with _ | n2
        · have hb2 : lt v2 (int (dlen (d_S l2))) = false := ltC_false hg hn2
          rw [I_PlacesOf_l2] at h_2
          try rw [← hg] at h_2
          try rw [← ht] at h_2
          try dsimp only at h_2
          rw [hb2]
          cbv
          refine ⟨(w3, w4), Wk.of [(0, some 0), (1, some 1)] rfl rfl ?_ ?_, (Option.some.inj h_2).symm⟩
          · cbv
            all_goals exact ⟨⟨_, rfl, rfl⟩, ⟨_, rfl, rfl⟩, ⟨_, rfl, rfl⟩, ⟨_, rfl, rfl⟩, ⟨_, rfl, rfl⟩, trivial⟩
          · cbv
            all_goals exact ⟨⟨_, rfl, rfl⟩, ⟨_, rfl, rfl⟩, trivial⟩
        · have hb2 : lt v2 (int (dlen (d_S l2))) = true := ltC_true hg hn2
          have hl2 := ltC_le hn2
          have hs2 := stepltC hg hn2 hi2 hB2 (by decide)
          rw [I_PlacesOf_l2] at h_2
          try rw [← hg] at h_2
          try rw [← ht] at h_2
          try dsimp only at h_2
          rw [hb2]
          cbv
          refine AStep.mk (rg_int hg hi2 hl2) ?_
          cbv
          obtain ⟨x1, hx1, h_2⟩ := of_gt h_2
          try dsimp only at h_2
          refine AGet.mk _ (d_get_S hg ht hx1) ?_
          cbv
          cases hb3 : (hasS w3 x1) with
          | true =>
            rw [br_true hb3] at h_2
            cbv
            try rw [hg] at h_2
            try rw [ht] at h_2
            refine ⟨⟨(n2, (wrap .i64 (add v2 1)), w3, w4), hs2.1, hs2.2, h_2⟩, Wk.of [(0, some 0), (1, some 1), (2, some 2)] rfl rfl ?_ ?_, Nat.lt_succ_self _⟩
            · cbv
              all_goals exact ⟨⟨_, rfl, rfl⟩, ⟨_, rfl, rfl⟩, ⟨_, rfl, rfl⟩, ⟨_, rfl, rfl⟩, ⟨_, rfl, rfl⟩, ⟨_, rfl, rfl⟩, ⟨_, rfl, rfl⟩, ⟨_, rfl, rfl⟩, trivial⟩
            · cbv
              all_goals exact ⟨⟨_, rfl, rfl⟩, ⟨_, rfl, rfl⟩, ⟨_, rfl, rfl⟩, trivial⟩
          | false =>
            rw [br_false hb3] at h_2
            cbv
            obtain ⟨l3, hl3, h_2⟩ := of_lP h_2
            try dsimp only at h_2
            refine ANew.mk (d_S l3) (dlen (d_S l3)) (by rw [← hl3]; exact lit_S hg ht [x1]) (by rw [← hl3]; exact litn_S hg ht [x1]) ?_
            cbv
            obtain ⟨hc1, h_2⟩ := of_gd h_2
            refine AStep.mk ⟨⟨rfl, (dlen_S hg ht _)⟩, (app_ok_S hg ht (dlen_S hg ht _) rfl hc1)⟩ ?_
            cbv
            obtain ⟨l4, hl4, h_2⟩ := of_lP h_2
            try dsimp only at h_2
            refine ANew.mk (d_S l4) (dlen (d_S l4)) (by rw [← hl4]; exact app_S hg ht (dlen_S hg ht _) rfl) (by rw [← hl4]; exact appl_S hg ht (dlen_S hg ht _) rfl) ?_
            cbv
            try rw [hg] at h_2
            try rw [ht] at h_2
            refine ⟨⟨(n2, (wrap .i64 (add v2 1)), (putS w3 x1), l4), hs2.1, hs2.2, h_2⟩, Wk.of [(0, some 0), (1, some 227), (2, some 2)] rfl rfl ?_ ?_, Nat.lt_succ_self _⟩
            · cbv
              all_goals exact ⟨⟨_, rfl, rfl⟩, ⟨_, rfl, rfl⟩, ⟨_, rfl, rfl⟩, ⟨_, rfl, rfl⟩, ⟨_, rfl, rfl⟩, ⟨_, rfl, rfl⟩, ⟨_, rfl, rfl⟩, ⟨_, rfl, rfl⟩, trivial⟩
            · cbv
              all_goals exact ⟨⟨_, rfl, rfl⟩, ⟨_, rfl, rfl⟩, ⟨_, rfl, rfl⟩, trivial⟩
      · rintro ⟨y1_1, y1_2⟩ hy2
        replace hy2 := hy2.symm
        subst hy2
        try dsimp only [lr, lrL, lrp, lrpL] at h_1
        cbv
        try rw [hg] at h_1
        try rw [ht] at h_1
        refine ⟨⟨(k1 + 1, (wrap .i64 (add v1 1)), y1_1, y1_2), hc1_, hs1, h_1⟩, Wk.of [(0, some 0), (1, some 1)] rfl rfl ?_ ?_, meas_L hc1_⟩
        · cbv
          all_goals exact ⟨⟨_, rfl, rfl⟩, ⟨_, rfl, rfl⟩, ⟨_, rfl, rfl⟩, ⟨_, rfl, rfl⟩, ⟨_, rfl, rfl⟩, trivial⟩
        · cbv
          all_goals exact ⟨⟨_, rfl, rfl⟩, ⟨_, rfl, rfl⟩, trivial⟩
    · have hb1 : lt v1 (llen (r_Leg a0_Legs)) = false := ltL_false_Leg hg ht hi1 hc1_
      rw [List.drop_of_length_le (Nat.le_of_not_lt hc1_)] at h_1
      rw [I_PlacesOf_l1] at h_1
      try rw [← hg] at h_1
      try rw [← ht] at h_1
      try dsimp only at h_1
      rw [hb1]
      cbv
      refine ⟨w2, Wk.of [(0, some 1)] rfl rfl ?_ ?_, (Option.some.inj h_1).symm⟩
      · cbv
        all_goals exact ⟨⟨_, rfl, rfl⟩, trivial⟩
      · cbv
        all_goals exact ⟨⟨_, rfl, rfl⟩, trivial⟩
  · rintro y2 hy1
    replace hy1 := hy1.symm
    subst hy1
    try dsimp only [lr, lrL, lrp, lrpL] at h
    cbv
    refine AStep.mk ⟨rfl, (dlen_S hg ht _)⟩ ?_
    cbv
    obtain ⟨x2, hx2, h⟩ := of_cl h
    try dsimp only at h
    refine ACallM.mk _ _ _ _ rfl rfl (hF _ _ _ (c_X_sort_Strings hg ht hx2)) rfl (Nat.le_of_ble_eq_true rfl) (Nat.le_of_ble_eq_true rfl) ?_
    cbv
    obtain ⟨hc2, h⟩ := of_gd h
    obtain rfl := Option.some.inj h
    exact ARet.mk ⟨rfl, (lenp_S ht (dlen_S hg ht _) hc2)⟩ hX.symm
end Go.Vs
namespace Go.Vs
set_option maxRecDepth 100000
def ir93 : J :=
  .seq (.reg none [⟨(some 3), none, .box (.t 0)⟩,
     ⟨(some 6), none, .mv (.k (V.b false))⟩] [1, 2, 3])
  (.seq (.seq (.reg none [⟨(some 9), none, .mv (.t 1)⟩,
      ⟨(some 10), none, .bin .lss .i (.t 9) (.k (V.i 0))⟩,
      ⟨(some 11), none, .mv (.t 10)⟩,
      ⟨(some 12), (some (11, false)), .mv (.t 1)⟩,
      ⟨(some 13), (some (11, false)), .fa 0 (.t 3)⟩,
      ⟨(some 14), (some (11, false)), .ld false 1 (.t 13)⟩,
      ⟨(some 15), (some (11, false)), .len false (.t 14)⟩,
      ⟨(some 16), (some (11, false)), .bin .geq .i (.t 12) (.t 15)⟩,
      ⟨(some 17), none, .pick (.t 11) (.k (V.b true)) (.t 16)⟩,
      ⟨(some 18), none, .mv (.t 17)⟩,
      ⟨(some 19), (some (18, false)), .mv (.t 2)⟩,
      ⟨(some 20), (some (18, false)), .call 70 true [(.t 19), (.k (V.i 0)), (.k (V.i 60))]⟩,
      ⟨(some 21), (some (18, false)), .not (.t 20)⟩,
      ⟨(some 22), none, .pick (.t 18) (.k (V.b true)) (.t 21)⟩,
      ⟨(some 23), none, .mv (.t 22)⟩,
      ⟨(some 24), (some (23, false)), .fa 0 (.t 3)⟩,
      ⟨(some 25), (some (23, false)), .ld false 1 (.t 24)⟩,
      ⟨(some 26), (some (23, false)), .mv (.t 1)⟩,
      ⟨(some 27), (some (23, false)), .ia 6 (.t 25) (.t 26)⟩,
      ⟨(some 28), (some (23, false)), .fa 4 (.t 27)⟩,
      ⟨(some 29), (some (23, false)), .ld false 1 (.t 28)⟩,
      ⟨(some 30), (some (23, false)), .mv (.t 2)⟩,
      ⟨(some 31), (some (23, false)), .bin .rem .i (.t 30) (.k (V.i 7))⟩,
      ⟨(some 32), (some (23, false)), .bin .shr .i (.t 29) (.t 31)⟩,
      ⟨(some 33), (some (23, false)), .bin .and .i (.t 32) (.k (V.i 1))⟩,
      ⟨(some 34), (some (23, false)), .bin .eql .i (.t 33) (.k (V.i 0))⟩,
      ⟨(some 35), none, .pick (.t 23) (.k (V.b true)) (.t 34)⟩] [2, 3, 35])
   (.cond (.t 35)
    (.seq (.reg none [⟨(some 6), none, .mv (.k (V.b false))⟩] [6])
     (.ret))
    (.skip)))
  (.seq (.seq (.reg none [⟨(some 36), none, .fa 1 (.t 3)⟩,
      ⟨(some 37), none, .ld false 1 (.t 36)⟩,
      ⟨(some 38), none, .len false (.t 37)⟩,
      ⟨(some 39), none, .mv (.k (V.i 0))⟩] [2, 37, 38, 39])
   (.bl 0 (.seq (.reg none [⟨(some 40), none, .bin .lss .i (.t 39) (.t 38)⟩] [2, 37, 38, 39, 40])
    (.seq (.cond (.t 40)
      (.skip)
      (.exit 0))
    (.seq (.block 1 (.seq (.reg none [⟨(some 41), none, .ia 1 (.t 37) (.t 39)⟩,
         ⟨(some 42), none, .ld false 1 (.t 41)⟩,
         ⟨(some 8), none, .mv (.t 42)⟩] [2, 8, 37, 38, 39])
      (.seq (.reg none [⟨(some 43), none, .mv (.t 8)⟩,
         ⟨(some 44), none, .mv (.t 2)⟩,
         ⟨(some 45), none, .bin .eql .i (.t 43) (.t 44)⟩] [2, 37, 38, 39, 45])
      (.cond (.t 45)
       (.seq (.reg none [⟨(some 6), none, .mv (.k (V.b false))⟩] [6])
        (.ret))
       (.skip)))))
    (.reg none [⟨(some 46), none, .bin .add .i (.t 39) (.k (V.i 1))⟩,
      ⟨(some 39), none, .mv (.t 46)⟩] [2, 37, 38, 39]))))))
  (.seq (.reg none [⟨(some 6), none, .mv (.k (V.b true))⟩] [6])
  (.ret))))
def rv93 : List RV := [.t 6]
open Go.Proofs Go.IntWalk
set_option linter.unusedVariables false
set_option maxRecDepth 100000
set_option maxHeartbeats 4000000
def I_runs_l1 (g : G) (t : TE) (a2 : Int) : List Int → LR Bool Unit
  | [] =>
    (LR.out ())
  | z1 :: ls1 =>
    br (g.eq z1 a2)
    (
     (LR.ret false))
    (
     I_runs_l1 g t a2 ls1)
def I_runs (g : G) (t : TE) (a0 : Network) (a1 : Int) (a2 : Int) : Option Bool :=
  br (g.lt a1 0)
  (
   some false)
  (
   br (g.le (g.llen (t.r_Leg a0.Legs)) a1)
   (
    some false)
   (
    lP (I_within g t a2 0 60) fun x1 =>
    br x1
    (
     gd (((0 : Int) ≤ a1)) <|
     gt a0.Legs (g.nat a1) fun x2 =>
     gd (((0 : Int) ≤ (g.rem a2 7))) <|
     br (g.eq (g.band .i64 (g.shr .i64 x2.Days (g.rem a2 7)) 1) 0)
     (
      some false)
     (
      lP (I_runs_l1 g t a2 a0.Off) fun o1 => lr o1 fun y1 =>
      some true))
    (
     some false)))
theorem fit93 : codeFit Try.prog Try.f93.ntmps (Try.f93.body.getD .skip) ir93 = true := by kernel_rfl
theorem c_I_runs {g : G} {t : TE} {a0 : Network} {a1 : Int} {a2 : Int} {r : Bool} (hg : g = G.real) (ht : t = TE.real) (h : I_runs g t a0 a1 a2 = some r) : Fn Try.prog 93 [.g (Network.rs t a0), .c (.v (.int .i64 a1)), .c (.v (.int .i64 a2))] (.c (.r (.v (.bool r)))) := by
  obtain ⟨X, hX⟩ := hide (.c (.r (.v (.bool r))) : X)
  rw [← hX]
  refine fn_of (rvs := rv93) (j := ir93) Try.func93 rfl fit93 (Nat.le_of_ble_eq_true rfl) (by kernel_rfl) prog_mixed ?_
  intro g2 F hg2 hF
  obtain rfl : g2 = g := hg2.unique.trans hg.symm
  clear hg2
  obtain ⟨wrap, lt, le, eq, quo, rem, band, bor, bxor, shl, shr, nat, int, add, sub, mul, cat, seq, slt, sub3, byte, llen, nadd, nsub, dlen, dapp, dset, drep, rd, rda, up, rsub, dsub, all, sle, slen, hasI, putI, hasS, putS, imin, imax, fzc, bstr⟩ := g2
  obtain ⟨r_Leg, d_Leg, r_I64, d_I64, r_Booking, d_Booking, r_Trip, d_Trip, r_S, d_S, r_LI64, d_LI64, r_U8, d_U8, r_Fd⟩ := t
  obtain ⟨a0_Legs, a0_Off, a0_Change⟩ := a0
  unfold I_runs at h
  try dsimp only at h
  cbv
  cases hb1 : (lt a1 0) with
  | true =>
    rw [br_true hb1] at h
    cbv
    try (rw [hb1]; cbv)
    try (rw [hb1]; cbv)
    try (rw [hb1]; cbv)
    try (rw [hb1]; cbv)
    try (rw [hb1]; cbv)
    obtain rfl := Option.some.inj h
    exact ARet.mk trivial hX.symm
  | false =>
    rw [br_false hb1] at h
    cbv
    try (rw [hb1]; cbv)
    try (rw [hb1]; cbv)
    try (rw [hb1]; cbv)
    try (rw [hb1]; cbv)
    try (rw [hb1]; cbv)
    cases hb2 : (le (llen (r_Leg a0_Legs)) a1) with
    | true =>
      rw [br_true hb2] at h
      cbv
      try (rw [hb2]; cbv)
      try (rw [hb2]; cbv)
      try (rw [hb2]; cbv)
      obtain rfl := Option.some.inj h
      exact ARet.mk trivial hX.symm
    | false =>
      rw [br_false hb2] at h
      cbv
      try (rw [hb2]; cbv)
      obtain ⟨x1, hx1, h⟩ := of_lP h
      try dsimp only at h
      refine ACall.mk _ _ rfl (hF _ _ _ (c_I_within hg ht hx1)) (.inl rfl) (Nat.le_of_ble_eq_true rfl) ?_
      cbv
      try (rw [hb2]; cbv)
      try (rw [hb2]; cbv)
      cases hb3 : x1 with
      | true =>
        rw [br_true hb3] at h
        cbv
        try (rw [hb3]; cbv)
        try (rw [hb3]; cbv)
        try (rw [hb3]; cbv)
        obtain ⟨hc1, h⟩ := of_gd h
        refine AStep.mk hc1 ?_
        cbv
        obtain ⟨x2, hx2, h⟩ := of_gt h
        obtain ⟨x2_From, x2_To, x2_Start, x2_Takes, x2_Days, x2_Room⟩ := x2
        try dsimp only at h
        refine AGet.mk _ (r_get_Leg hg ht hx2) ?_
        cbv
        try (rw [hb3]; cbv)
        try (rw [hb3]; cbv)
        try (rw [hb3]; cbv)
        try (rw [hb3]; cbv)
        refine AStep.mk (by decide) ?_
        cbv
        try (rw [hb3]; cbv)
        obtain ⟨hc2, h⟩ := of_gd h
        refine AStep.mk hc2 ?_
        cbv
        try (rw [hb3]; cbv)
        try (rw [hb3]; cbv)
        try (rw [hb3]; cbv)
        cases hb4 : (eq (band .i64 (shr .i64 x2_Days (rem a2 7)) 1) 0) with
        | true =>
          rw [br_true hb4] at h
          cbv
          obtain rfl := Option.some.inj h
          exact ARet.mk trivial hX.symm
        | false =>
          rw [br_false hb4] at h
          cbv
          obtain ⟨o1, ho1, h⟩ := of_lP h
          try dsimp only at h
          try rw [hg] at ho1
          try rw [ht] at ho1
          refine ABL.mk { p : Nat × Int // p.1 ≤ a0_Off.length ∧ p.2 = ((p.1 : Nat) : Int) ∧ I_runs_l1 G.real TE.real a2 (List.drop p.1 a0_Off) = o1 } (fun ⟨⟨k1, v1⟩, _⟩ => ({ sl := [(2, .c (.r (.v (.int .i64 a2)))), (37, .c (.r (.s 1 (r_I64 a0_Off)))), (38, .c (.r (.v (.int .i64 (llen (r_I64 a0_Off)))))), (39, .c (.r (.v (.int .i64 v1))))], tab := [] } : St)) 0 (fun p => a0_Off.length - p.1.1) ⟨(0, 0), Nat.zero_le _, rfl, ho1⟩ (Unit) (fun _ => ({ sl := [], tab := [] } : St)) 0 (fun y => o1 = LR.out y) ?_ ?_ ?_
          · refine Wk.of [] rfl rfl ?_ ?_
            · cbv
              all_goals exact ⟨⟨_, rfl, rfl⟩, ⟨_, rfl, rfl⟩, ⟨_, rfl, rfl⟩, ⟨_, rfl, rfl⟩, trivial⟩
            · cbv
              all_goals exact trivial
          · rintro ⟨⟨k1, v1⟩, hk1, hi1, h_1⟩ hq1
            have hm1 := (hq1.1 37 _ _ rfl)
            try dsimp only at hk1 hi1 h_1
            clear hq1
            cbv
            by_cases hc1_ : k1 < a0_Off.length
            · have hb5 : lt v1 (llen (r_I64 a0_Off)) = true := ltL_true_I64 hg ht hi1 hc1_
              have hs1 := stepL_I64 hg ht hi1 hc1_ hm1
              obtain ⟨z1, hz1⟩ := some_of_lt hc1_
              rw [drop_of_some hz1] at h_1
              rw [I_runs_l1] at h_1
              try rw [← hg] at h_1
              try rw [← ht] at h_1
              try dsimp only at h_1
              rw [hb5]
              cbv
              refine AStep.mk (nn_L hi1) ?_
              cbv
              refine AGet.mk _ (r_getL_I64 hg ht hi1 hz1) ?_
              cbv
              cases hb6 : (eq z1 a2) with
              | true =>
                rw [br_true hb6] at h_1
                cbv
                subst h_1
                try dsimp only [lr, lrL, lrp, lrpL] at h
                obtain rfl := Option.some.inj h
                exact ARet.mk trivial hX.symm
              | false =>
                rw [br_false hb6] at h_1
                cbv
                try rw [hg] at h_1
                try rw [ht] at h_1
                refine ⟨⟨(k1 + 1, (wrap .i64 (add v1 1))), hc1_, hs1, h_1⟩, Wk.of [] rfl rfl ?_ ?_, meas_L hc1_⟩
                · cbv
                  all_goals exact ⟨⟨_, rfl, rfl⟩, ⟨_, rfl, rfl⟩, ⟨_, rfl, rfl⟩, ⟨_, rfl, rfl⟩, trivial⟩
                · cbv
                  all_goals exact trivial
            · have hb5 : lt v1 (llen (r_I64 a0_Off)) = false := ltL_false_I64 hg ht hi1 hc1_
              rw [List.drop_of_length_le (Nat.le_of_not_lt hc1_)] at h_1
              rw [I_runs_l1] at h_1
              try rw [← hg] at h_1
              try rw [← ht] at h_1
              try dsimp only at h_1
              rw [hb5]
              cbv
              refine ⟨(), Wk.of [] rfl rfl ?_ ?_, h_1.symm⟩
              · cbv
                all_goals exact trivial
              · cbv
                all_goals exact trivial
          · rintro _ hy1
            replace hy1 := hy1.symm
            subst hy1
            try dsimp only [lr, lrL, lrp, lrpL] at h
            cbv
            obtain rfl := Option.some.inj h
            exact ARet.mk trivial hX.symm
      | false =>
        rw [br_false hb3] at h
        cbv
        try (rw [hb3]; cbv)
        try (rw [hb3]; cbv)
        try (rw [hb3]; cbv)
        try (rw [hb3]; cbv)
        try (rw [hb3]; cbv)
        try (rw [hb3]; cbv)
        try (rw [hb3]; cbv)
        try (rw [hb3]; cbv)
        try (rw [hb3]; cbv)
        try (rw [hb3]; cbv)
        try (rw [hb3]; cbv)
        obtain rfl := Option.some.inj h
        exact ARet.mk trivial hX.symm
end Go.Vs
namespace Go.Vs
set_option maxRecDepth 100000
def ir102 : J :=
  .seq (.reg none [⟨(some 3), none, .box (.t 0)⟩,
     ⟨(some 6), none, .mv (.k (V.b false))⟩] [1, 2, 3])
  (.seq (.reg none [⟨(some 7), none, .ld true 3 (.t 3)⟩,
     ⟨(some 8), none, .call 69 true [(.t 7)]⟩,
     ⟨(some 9), none, .mv (.t 8)⟩,
     ⟨(some 10), (some (9, true)), .ld true 3 (.t 3)⟩,
     ⟨(some 11), (some (9, true)), .mv (.t 1)⟩,
     ⟨(some 12), (some (9, true)), .mv (.t 2)⟩,
     ⟨(some 13), (some (9, true)), .call 93 true [(.t 10), (.t 11), (.t 12)]⟩,
     ⟨(some 14), none, .pick (.t 9) (.t 13) (.k (V.b false))⟩,
     ⟨(some 6), none, .mv (.t 14)⟩] [6])
  (.ret))
def rv102 : List RV := [.t 6]
open Go.Proofs Go.IntWalk
set_option linter.unusedVariables false
set_option maxRecDepth 100000
set_option maxHeartbeats 4000000
def I_RunsOn (g : G) (t : TE) (a0 : Network) (a1 : Int) (a2 : Int) : Option Bool :=
  cl (I_IsNetwork g t a0) fun x1 =>
  br x1
  (
   cl (I_runs g t a0 a1 a2) fun x2 =>
   some x2)
  (
   some false)
theorem fit102 : codeFit Try.prog Try.f102.ntmps (Try.f102.body.getD .skip) ir102 = true := by kernel_rfl
theorem c_I_RunsOn {g : G} {t : TE} {a0 : Network} {a1 : Int} {a2 : Int} {r : Bool} (hg : g = G.real) (ht : t = TE.real) (h : I_RunsOn g t a0 a1 a2 = some r) : Fn Try.prog 102 [.g (Network.rs t a0), .c (.v (.int .i64 a1)), .c (.v (.int .i64 a2))] (.c (.r (.v (.bool r)))) := by
  obtain ⟨X, hX⟩ := hide (.c (.r (.v (.bool r))) : X)
  rw [← hX]
  refine fn_of (rvs := rv102) (j := ir102) Try.func102 rfl fit102 (Nat.le_of_ble_eq_true rfl) (by kernel_rfl) prog_mixed ?_
  intro g2 F hg2 hF
  obtain rfl : g2 = g := hg2.unique.trans hg.symm
  clear hg2
  obtain ⟨wrap, lt, le, eq, quo, rem, band, bor, bxor, shl, shr, nat, int, add, sub, mul, cat, seq, slt, sub3, byte, llen, nadd, nsub, dlen, dapp, dset, drep, rd, rda, up, rsub, dsub, all, sle, slen, hasI, putI, hasS, putS, imin, imax, fzc, bstr⟩ := g2
  obtain ⟨r_Leg, d_Leg, r_I64, d_I64, r_Booking, d_Booking, r_Trip, d_Trip, r_S, d_S, r_LI64, d_LI64, r_U8, d_U8, r_Fd⟩ := t
  obtain ⟨a0_Legs, a0_Off, a0_Change⟩ := a0
  unfold I_RunsOn at h
  try dsimp only at h
  cbv
  obtain ⟨x1, hx1, h⟩ := of_cl h
  try dsimp only at h
  refine ACall.mk _ _ rfl (hF _ _ _ (c_I_IsNetwork hg ht hx1)) (.inl rfl) (Nat.le_of_ble_eq_true rfl) ?_
  cbv
  cases hb1 : x1 with
  | true =>
    rw [br_true hb1] at h
    cbv
    try (rw [hb1]; cbv)
    try (rw [hb1]; cbv)
    try (rw [hb1]; cbv)
    obtain ⟨x2, hx2, h⟩ := of_cl h
    try dsimp only at h
    refine ACall.mk _ _ rfl (hF _ _ _ (c_I_runs hg ht hx2)) (.inl rfl) (Nat.le_of_ble_eq_true rfl) ?_
    cbv
    try (rw [hb1]; cbv)
    obtain rfl := Option.some.inj h
    exact ARet.mk trivial hX.symm
  | false =>
    rw [br_false hb1] at h
    cbv
    try (rw [hb1]; cbv)
    try (rw [hb1]; cbv)
    try (rw [hb1]; cbv)
    try (rw [hb1]; cbv)
    obtain rfl := Option.some.inj h
    exact ARet.mk trivial hX.symm
end Go.Vs
namespace Go.Vs
set_option maxRecDepth 100000
def ir73 : J :=
  .seq (.reg none [⟨(some 2), none, .box (.t 0)⟩,
     ⟨(some 3), none, .box (.t 1)⟩,
     ⟨(some 4), none, .mv (.k (V.b false))⟩] [2, 3])
  (.seq (.reg none [⟨(some 5), none, .ld true 3 (.t 2)⟩,
     ⟨(some 6), none, .fa 0 (.t 3)⟩,
     ⟨(some 7), none, .ld false 1 (.t 6)⟩,
     ⟨(some 8), none, .fa 1 (.t 3)⟩,
     ⟨(some 9), none, .ld false 1 (.t 8)⟩,
     ⟨(some 10), none, .call 102 true [(.t 5), (.t 7), (.t 9)]⟩,
     ⟨(some 4), none, .mv (.t 10)⟩] [4])
  (.ret))
def rv73 : List RV := [.t 4]
open Go.Proofs Go.IntWalk
set_option linter.unusedVariables false
set_option maxRecDepth 100000
set_option maxHeartbeats 4000000
def I_IsTrip (g : G) (t : TE) (a0 : Network) (a1 : Trip) : Option Bool :=
  cl (I_RunsOn g t a0 a1.Leg a1.Day) fun x1 =>
  some x1
theorem fit73 : codeFit Try.prog Try.f73.ntmps (Try.f73.body.getD .skip) ir73 = true := by kernel_rfl
theorem c_I_IsTrip {g : G} {t : TE} {a0 : Network} {a1 : Trip} {r : Bool} (hg : g = G.real) (ht : t = TE.real) (h : I_IsTrip g t a0 a1 = some r) : Fn Try.prog 73 [.g (Network.rs t a0), .g (Trip.rs t a1)] (.c (.r (.v (.bool r)))) := by
  obtain ⟨X, hX⟩ := hide (.c (.r (.v (.bool r))) : X)
  rw [← hX]
  refine fn_of (rvs := rv73) (j := ir73) Try.func73 rfl fit73 (Nat.le_of_ble_eq_true rfl) (by kernel_rfl) prog_mixed ?_
  intro g2 F hg2 hF
  obtain rfl : g2 = g := hg2.unique.trans hg.symm
  clear hg2
  obtain ⟨wrap, lt, le, eq, quo, rem, band, bor, bxor, shl, shr, nat, int, add, sub, mul, cat, seq, slt, sub3, byte, llen, nadd, nsub, dlen, dapp, dset, drep, rd, rda, up, rsub, dsub, all, sle, slen, hasI, putI, hasS, putS, imin, imax, fzc, bstr⟩ := g2
  obtain ⟨r_Leg, d_Leg, r_I64, d_I64, r_Booking, d_Booking, r_Trip, d_Trip, r_S, d_S, r_LI64, d_LI64, r_U8, d_U8, r_Fd⟩ := t
  obtain ⟨a0_Legs, a0_Off, a0_Change⟩ := a0
  obtain ⟨a1_Leg, a1_Day⟩ := a1
  unfold I_IsTrip at h
  try dsimp only at h
  cbv
  obtain ⟨x1, hx1, h⟩ := of_cl h
  try dsimp only at h
  refine ACall.mk _ _ rfl (hF _ _ _ (c_I_RunsOn hg ht hx1)) (.inl rfl) (Nat.le_of_ble_eq_true rfl) ?_
  cbv
  obtain rfl := Option.some.inj h
  exact ARet.mk trivial hX.symm
end Go.Vs
namespace Go.Vs
set_option maxRecDepth 100000
def ir74 : J :=
  .seq (.reg none [⟨(some 2), none, .box (.t 0)⟩,
     ⟨(some 3), none, .box (.t 1)⟩,
     ⟨(some 4), none, .mv (.k (V.i 0))⟩] [2, 3])
  (.seq (.reg (some [[], [0], [0, 1], [], [3], [], [5], [3, 4, 5, 6], [3, 4, 5, 6, 7], [3, 4, 5, 6, 7, 8], [0, 1, 2, 3, 4, 5, 6, 7, 8, 9], [0, 1, 2, 3, 4, 5, 6, 7, 8, 9, 10]]) [⟨(some 5), none, .fa 1 (.t 3)⟩,
     ⟨(some 6), none, .ld false 1 (.t 5)⟩,
     ⟨(some 7), none, .bin .mul .i (.t 6) (.k (V.i 1440))⟩,
     ⟨(some 8), none, .fa 0 (.t 2)⟩,
     ⟨(some 9), none, .ld false 1 (.t 8)⟩,
     ⟨(some 10), none, .fa 0 (.t 3)⟩,
     ⟨(some 11), none, .ld false 1 (.t 10)⟩,
     ⟨(some 12), none, .ia 6 (.t 9) (.t 11)⟩,
     ⟨(some 13), none, .fa 2 (.t 12)⟩,
     ⟨(some 14), none, .ld false 1 (.t 13)⟩,
     ⟨(some 15), none, .bin .add .i (.t 7) (.t 14)⟩,
     ⟨(some 4), none, .mv (.t 15)⟩] [4])
  (.ret))
def rv74 : List RV := [.t 4]
open Go.Proofs Go.IntWalk
set_option linter.unusedVariables false
set_option maxRecDepth 100000
set_option maxHeartbeats 4000000
def I_starts (g : G) (t : TE) (a0 : Network) (a1 : Trip) : Option Int :=
  gd (((0 : Int) ≤ a1.Leg)) <|
  gt a0.Legs (g.nat a1.Leg) fun x1 =>
  some (g.wrap .i64 (g.add (g.wrap .i64 (g.mul a1.Day 1440)) x1.Start))
theorem fit74 : codeFit Try.prog Try.f74.ntmps (Try.f74.body.getD .skip) ir74 = true := by kernel_rfl
theorem c_I_starts {g : G} {t : TE} {a0 : Network} {a1 : Trip} {r : Int} (hg : g = G.real) (ht : t = TE.real) (h : I_starts g t a0 a1 = some r) : Fn Try.prog 74 [.g (Network.rs t a0), .g (Trip.rs t a1)] (.c (.r (.v (.int .i64 r)))) := by
  obtain ⟨X, hX⟩ := hide (.c (.r (.v (.int .i64 r))) : X)
  rw [← hX]
  refine fn_of (rvs := rv74) (j := ir74) Try.func74 rfl fit74 (Nat.le_of_ble_eq_true rfl) (by kernel_rfl) prog_mixed ?_
  intro g2 F hg2 hF
  obtain rfl : g2 = g := hg2.unique.trans hg.symm
  clear hg2
  obtain ⟨wrap, lt, le, eq, quo, rem, band, bor, bxor, shl, shr, nat, int, add, sub, mul, cat, seq, slt, sub3, byte, llen, nadd, nsub, dlen, dapp, dset, drep, rd, rda, up, rsub, dsub, all, sle, slen, hasI, putI, hasS, putS, imin, imax, fzc, bstr⟩ := g2
  obtain ⟨r_Leg, d_Leg, r_I64, d_I64, r_Booking, d_Booking, r_Trip, d_Trip, r_S, d_S, r_LI64, d_LI64, r_U8, d_U8, r_Fd⟩ := t
  obtain ⟨a0_Legs, a0_Off, a0_Change⟩ := a0
  obtain ⟨a1_Leg, a1_Day⟩ := a1
  unfold I_starts at h
  try dsimp only at h
  cbv
  obtain ⟨hc1, h⟩ := of_gd h
  refine AStep.mk hc1 ?_
  cbv
  obtain ⟨x1, hx1, h⟩ := of_gt h
  obtain ⟨x1_From, x1_To, x1_Start, x1_Takes, x1_Days, x1_Room⟩ := x1
  try dsimp only at h
  refine AGet.mk _ (r_get_Leg hg ht hx1) ?_
  cbv
  obtain rfl := Option.some.inj h
  exact ARet.mk trivial hX.symm
end Go.Vs
namespace Go.Vs
set_option maxRecDepth 100000
def ir75 : J :=
  .seq (.reg none [⟨(some 2), none, .box (.t 0)⟩,
     ⟨(some 3), none, .box (.t 1)⟩,
     ⟨(some 4), none, .mv (.k (V.i 0))⟩] [2, 3])
  (.seq (.reg (some [[], [], [0, 1], [], [3], [], [5], [3, 4, 5, 6], [3, 4, 5, 6, 7], [3, 4, 5, 6, 7, 8], [0, 1, 2, 3, 4, 5, 6, 7, 8, 9], [0, 1, 2, 3, 4, 5, 6, 7, 8, 9, 10]]) [⟨(some 5), none, .ld true 3 (.t 2)⟩,
     ⟨(some 6), none, .ld true 2 (.t 3)⟩,
     ⟨(some 7), none, .call 74 true [(.t 5), (.t 6)]⟩,
     ⟨(some 8), none, .fa 0 (.t 2)⟩,
     ⟨(some 9), none, .ld false 1 (.t 8)⟩,
     ⟨(some 10), none, .fa 0 (.t 3)⟩,
     ⟨(some 11), none, .ld false 1 (.t 10)⟩,
     ⟨(some 12), none, .ia 6 (.t 9) (.t 11)⟩,
     ⟨(some 13), none, .fa 3 (.t 12)⟩,
     ⟨(some 14), none, .ld false 1 (.t 13)⟩,
     ⟨(some 15), none, .bin .add .i (.t 7) (.t 14)⟩,
     ⟨(some 4), none, .mv (.t 15)⟩] [4])
  (.ret))
def rv75 : List RV := [.t 4]
open Go.Proofs Go.IntWalk
set_option linter.unusedVariables false
set_option maxRecDepth 100000
set_option maxHeartbeats 4000000
def I_ends (g : G) (t : TE) (a0 : Network) (a1 : Trip) : Option Int :=
  cl (I_starts g t a0 a1) fun x1 =>
  gd (((0 : Int) ≤ a1.Leg)) <|
  gt a0.Legs (g.nat a1.Leg) fun x2 =>
  some (g.wrap .i64 (g.add x1 x2.Takes))
theorem fit75 : codeFit Try.prog Try.f75.ntmps (Try.f75.body.getD .skip) ir75 = true := by kernel_rfl
theorem c_I_ends {g : G} {t : TE} {a0 : Network} {a1 : Trip} {r : Int} (hg : g = G.real) (ht : t = TE.real) (h : I_ends g t a0 a1 = some r) : Fn Try.prog 75 [.g (Network.rs t a0), .g (Trip.rs t a1)] (.c (.r (.v (.int .i64 r)))) := by
  obtain ⟨X, hX⟩ := hide (.c (.r (.v (.int .i64 r))) : X)
  rw [← hX]
  refine fn_of (rvs := rv75) (j := ir75) Try.func75 rfl fit75 (Nat.le_of_ble_eq_true rfl) (by kernel_rfl) prog_mixed ?_
  intro g2 F hg2 hF
  obtain rfl : g2 = g := hg2.unique.trans hg.symm
  clear hg2
  obtain ⟨wrap, lt, le, eq, quo, rem, band, bor, bxor, shl, shr, nat, int, add, sub, mul, cat, seq, slt, sub3, byte, llen, nadd, nsub, dlen, dapp, dset, drep, rd, rda, up, rsub, dsub, all, sle, slen, hasI, putI, hasS, putS, imin, imax, fzc, bstr⟩ := g2
  obtain ⟨r_Leg, d_Leg, r_I64, d_I64, r_Booking, d_Booking, r_Trip, d_Trip, r_S, d_S, r_LI64, d_LI64, r_U8, d_U8, r_Fd⟩ := t
  obtain ⟨a0_Legs, a0_Off, a0_Change⟩ := a0
  obtain ⟨a1_Leg, a1_Day⟩ := a1
  unfold I_ends at h
  try dsimp only at h
  cbv
  obtain ⟨x1, hx1, h⟩ := of_cl h
  try dsimp only at h
  refine ACall.mk _ _ rfl (hF _ _ _ (c_I_starts hg ht hx1)) (.inl rfl) (Nat.le_of_ble_eq_true rfl) ?_
  cbv
  obtain ⟨hc1, h⟩ := of_gd h
  refine AStep.mk hc1 ?_
  cbv
  obtain ⟨x2, hx2, h⟩ := of_gt h
  obtain ⟨x2_From, x2_To, x2_Start, x2_Takes, x2_Days, x2_Room⟩ := x2
  try dsimp only at h
  refine AGet.mk _ (r_get_Leg hg ht hx2) ?_
  cbv
  obtain rfl := Option.some.inj h
  exact ARet.mk trivial hX.symm
end Go.Vs
namespace Go.Vs
set_option maxRecDepth 100000
def ir40 (s_k0 : ByteArray) : J :=
  .seq (.reg none [⟨(some 2), none, .box (.t 0)⟩,
     ⟨(some 3), none, .box (.t 1)⟩,
     ⟨(some 4), none, .mv (.k (V.b false))⟩] [2, 3])
  (.seq (.seq (.reg none [⟨(some 5), none, .ld true 3 (.t 2)⟩,
      ⟨(some 6), none, .call 69 true [(.t 5)]⟩,
      ⟨(some 7), none, .not (.t 6)⟩,
      ⟨(some 8), none, .mv (.t 7)⟩,
      ⟨(some 9), (some (8, false)), .fa 0 (.t 3)⟩,
      ⟨(some 10), (some (8, false)), .ld false 1 (.t 9)⟩,
      ⟨(some 11), (some (8, false)), .call 70 true [(.t 10), (.k (V.i 1)), (.k (V.i 9999))]⟩,
      ⟨(some 12), (some (8, false)), .not (.t 11)⟩,
      ⟨(some 13), none, .pick (.t 8) (.k (V.b true)) (.t 12)⟩,
      ⟨(some 14), none, .mv (.t 13)⟩,
      ⟨(some 15), (some (14, false)), .fa 1 (.t 3)⟩,
      ⟨(some 16), (some (14, false)), .ld false 1 (.t 15)⟩,
      ⟨(some 17), (some (14, false)), .call 70 true [(.t 16), (.k (V.i 0)), (.k (V.i 100000))]⟩,
      ⟨(some 18), (some (14, false)), .not (.t 17)⟩,
      ⟨(some 19), none, .pick (.t 14) (.k (V.b true)) (.t 18)⟩] [2, 3, 19])
   (.cond (.t 19)
    (.seq (.reg none [⟨(some 4), none, .mv (.k (V.b false))⟩] [4])
     (.ret))
    (.skip)))
  (.seq (.seq (.reg none [⟨(some 20), none, .fa 2 (.t 3)⟩,
      ⟨(some 21), none, .ld false 1 (.t 20)⟩] [2, 3, 21])
   (.block 0 (.seq (.seq (.reg none [⟨(some 23), none, .bin .eql .i (.t 21) (.k (V.i 1))⟩,
        ⟨(some 22), none, .mv (.t 23)⟩] [2, 3, 21, 22])
     (.cond (.t 22)
      (.skip)
      (.reg none [⟨(some 24), none, .bin .eql .i (.t 21) (.k (V.i 4))⟩,
         ⟨(some 22), none, .mv (.t 24)⟩] [2, 3, 21, 22])))
    (.cond (.t 22)
     (.seq (.reg (some [[], [0], [], [2], [0, 1, 2, 3], [0, 1, 2, 3, 4], [0, 1, 2, 3, 4, 5], [0, 1, 2, 3, 4, 5, 6], [0, 1, 2, 3, 4, 5, 6, 7], [0, 1, 2, 3, 4, 5, 6], [0, 1, 2, 3, 4, 5, 6, 7, 8, 9], [0, 1, 2, 3, 4, 5, 6, 7, 8, 9, 10], [0, 1, 2, 3, 4, 5, 6, 7, 8, 9, 10, 11]]) [⟨(some 25), none, .ld true 3 (.t 2)⟩,
         ⟨(some 26), none, .call 72 true [(.t 25)]⟩,
         ⟨(some 27), none, .fa 3 (.t 3)⟩,
         ⟨(some 28), none, .ld false 1 (.t 27)⟩,
         ⟨(some 29), none, .call 71 true [(.t 26), (.t 28)]⟩,
         ⟨(some 30), none, .bin .geq .i (.t 29) (.k (V.i 0))⟩,
         ⟨(some 31), none, .mv (.t 30)⟩,
         ⟨(some 32), (some (31, true)), .fa 4 (.t 3)⟩,
         ⟨(some 33), (some (31, true)), .ld true 2 (.t 32)⟩,
         ⟨(some 34), (some (31, true)), .bld [.r (.v (.int .i64 0)), .r (.v (.int .i64 0))] []⟩,
         ⟨(some 35), (some (31, true)), .eqs false [.i, .i] (.t 33) (.t 34)⟩,
         ⟨(some 36), none, .pick (.t 31) (.t 35) (.k (V.b false))⟩,
         ⟨(some 4), none, .mv (.t 36)⟩] [4])
      (.ret))
     (.seq (.reg none [⟨(some 38), none, .bin .eql .i (.t 21) (.k (V.i 3))⟩,
         ⟨(some 37), none, .mv (.t 38)⟩] [2, 3, 21, 37])
      (.cond (.t 37)
       (.seq (.reg (some [[], [0], [0, 1], [0, 1, 2], [0, 1, 2, 3], [0, 1, 2, 3], [0, 1, 2, 3, 5], [0, 1, 2, 3, 4, 5, 6], [0, 1, 2, 3, 4, 5, 6, 7], [0, 1, 2, 3, 4, 5, 6, 7, 8], [0, 1, 2, 3, 4, 5, 6, 7, 8, 9], [0, 1, 2, 3, 4, 5, 6, 7, 8, 9, 10], [0, 1, 2, 3, 4, 5, 6, 7, 8, 9], [0, 1, 2, 3, 4, 5, 6, 7, 8, 9], [0, 1, 2, 3, 4, 5, 6, 7, 8, 9, 13], [0, 1, 2, 3, 4, 5, 6, 7, 8, 9, 12, 13, 14], [0, 1, 2, 3, 4, 5, 6, 7, 8, 9, 10, 11, 12, 13, 14, 15], [0, 1, 2, 3, 4, 5, 6, 7, 8, 9, 10, 11, 12, 13, 14, 15, 16], [0, 1, 2, 3, 4, 5, 6, 7, 8, 9, 10, 11, 12, 13, 14, 15, 16, 17]]) [⟨(some 39), none, .fa 3 (.t 3)⟩,
           ⟨(some 40), none, .ld false 1 (.t 39)⟩,
           ⟨(some 41), none, .bin .eql .s (.t 40) (.k (.c (.r (.v (.string s_k0)))))⟩,
           ⟨(some 42), none, .mv (.t 41)⟩,
           ⟨(some 43), (some (42, true)), .ld true 3 (.t 2)⟩,
           ⟨(some 44), (some (42, true)), .fa 4 (.t 3)⟩,
           ⟨(some 45), (some (42, true)), .ld true 2 (.t 44)⟩,
           ⟨(some 46), (some (42, true)), .call 73 true [(.t 43), (.t 45)]⟩,
           ⟨(some 47), none, .pick (.t 42) (.t 46) (.k (V.b false))⟩,
           ⟨(some 48), none, .mv (.t 47)⟩,
           ⟨(some 49), (some (48, true)), .fa 1 (.t 3)⟩,
           ⟨(some 50), (some (48, true)), .ld false 1 (.t 49)⟩,
           ⟨(some 51), (some (48, true)), .ld true 3 (.t 2)⟩,
           ⟨(some 52), (some (48, true)), .fa 4 (.t 3)⟩,
           ⟨(some 53), (some (48, true)), .ld true 2 (.t 52)⟩,
           ⟨(some 54), (some (48, true)), .call 74 true [(.t 51), (.t 53)]⟩,
           ⟨(some 55), (some (48, true)), .bin .leq .i (.t 50) (.t 54)⟩,
           ⟨(some 56), none, .pick (.t 48) (.t 55) (.k (V.b false))⟩,
           ⟨(some 4), none, .mv (.t 56)⟩] [4])
        (.ret))
       (.seq (.reg none [⟨(some 58), none, .bin .eql .i (.t 21) (.k (V.i 2))⟩,
           ⟨(some 57), none, .mv (.t 58)⟩] [2, 3, 57])
        (.cond (.t 57)
         (.seq (.reg (some [[], [0], [0, 1], [0, 1, 2], [0, 1, 2, 3], [0, 1, 2, 3], [0, 1, 2, 3, 5], [0, 1, 2, 3, 4, 5, 6], [0, 1, 2, 3, 4, 5, 6, 7], [0, 1, 2, 3, 4, 5, 6, 7, 8], [0, 1, 2, 3, 4, 5, 6, 7, 8, 9], [0, 1, 2, 3, 4, 5, 6, 7, 8, 9, 10], [0, 1, 2, 3, 4, 5, 6, 7, 8, 9], [0, 1, 2, 3, 4, 5, 6, 7, 8, 9], [0, 1, 2, 3, 4, 5, 6, 7, 8, 9, 13], [0, 1, 2, 3, 4, 5, 6, 7, 8, 9, 12, 13, 14], [0, 1, 2, 3, 4, 5, 6, 7, 8, 9, 10, 11, 12, 13, 14, 15], [0, 1, 2, 3, 4, 5, 6, 7, 8, 9, 10, 11, 12, 13, 14, 15, 16], [0, 1, 2, 3, 4, 5, 6, 7, 8, 9, 10, 11, 12, 13, 14, 15, 16, 17]]) [⟨(some 59), none, .fa 3 (.t 3)⟩,
             ⟨(some 60), none, .ld false 1 (.t 59)⟩,
             ⟨(some 61), none, .bin .eql .s (.t 60) (.k (.c (.r (.v (.string s_k0)))))⟩,
             ⟨(some 62), none, .mv (.t 61)⟩,
             ⟨(some 63), (some (62, true)), .ld true 3 (.t 2)⟩,
             ⟨(some 64), (some (62, true)), .fa 4 (.t 3)⟩,
             ⟨(some 65), (some (62, true)), .ld true 2 (.t 64)⟩,
             ⟨(some 66), (some (62, true)), .call 73 true [(.t 63), (.t 65)]⟩,
             ⟨(some 67), none, .pick (.t 62) (.t 66) (.k (V.b false))⟩,
             ⟨(some 68), none, .mv (.t 67)⟩,
             ⟨(some 69), (some (68, true)), .fa 1 (.t 3)⟩,
             ⟨(some 70), (some (68, true)), .ld false 1 (.t 69)⟩,
             ⟨(some 71), (some (68, true)), .ld true 3 (.t 2)⟩,
             ⟨(some 72), (some (68, true)), .fa 4 (.t 3)⟩,
             ⟨(some 73), (some (68, true)), .ld true 2 (.t 72)⟩,
             ⟨(some 74), (some (68, true)), .call 75 true [(.t 71), (.t 73)]⟩,
             ⟨(some 75), (some (68, true)), .bin .geq .i (.t 70) (.t 74)⟩,
             ⟨(some 76), none, .pick (.t 68) (.t 75) (.k (V.b false))⟩,
             ⟨(some 4), none, .mv (.t 76)⟩] [4])
          (.ret))
         (.skip)))))))))
  (.seq (.reg none [⟨(some 4), none, .mv (.k (V.b false))⟩] [4])
  (.ret))))
def rv40 : List RV := [.t 4]
open Go.Proofs Go.IntWalk
set_option linter.unusedVariables false
set_option maxRecDepth 100000
set_option maxHeartbeats 4000000
def I_IsScan (g : G) (t : TE) (a0 : Network) (a1 : Scan) : Option Bool :=
  cl (I_IsNetwork g t a0) fun x1 =>
  br x1
  (
   lP (I_within g t a1.Thing 1 9999) fun x2 =>
   br x2
   (
    lP (I_within g t a1.At 0 100000) fun x3 =>
    br x3
    (
     br (g.eq a1.Kind 1)
     (
      cl (I_PlacesOf g t a0) fun x4 =>
      lP (I_placeAt g t x4 a1.Place) fun x5 =>
      br (g.le 0 x5)
      (
       some (g.all [(g.eq a1.Trip.Leg 0), (g.eq a1.Trip.Day 0)]))
      (
       some false))
     (
      br (g.eq a1.Kind 4)
      (
       cl (I_PlacesOf g t a0) fun x6 =>
       lP (I_placeAt g t x6 a1.Place) fun x7 =>
       br (g.le 0 x7)
       (
        some (g.all [(g.eq a1.Trip.Leg 0), (g.eq a1.Trip.Day 0)]))
       (
        some false))
      (
       br (g.eq a1.Kind 3)
       (
        br (g.seq a1.Place str_k0)
        (
         cl (I_IsTrip g t a0 (Trip.mk a1.Trip.Leg a1.Trip.Day)) fun x8 =>
         br x8
         (
          cl (I_starts g t a0 (Trip.mk a1.Trip.Leg a1.Trip.Day)) fun x9 =>
          some (g.le a1.At x9))
         (
          some false))
        (
         some false))
       (
        br (g.eq a1.Kind 2)
        (
         br (g.seq a1.Place str_k0)
         (
          cl (I_IsTrip g t a0 (Trip.mk a1.Trip.Leg a1.Trip.Day)) fun x10 =>
          br x10
          (
           cl (I_ends g t a0 (Trip.mk a1.Trip.Leg a1.Trip.Day)) fun x11 =>
           some (g.le x11 a1.At))
          (
           some false))
         (
          some false))
        (
         some false)))))
    (
     some false))
   (
    some false))
  (
   some false)
theorem fit40 : codeFit Try.prog Try.f40.ntmps (Try.f40.body.getD .skip) (ir40 str_k0) = true := by kernel_rfl
theorem c_I_IsScan {g : G} {t : TE} {a0 : Network} {a1 : Scan} {r : Bool} (hg : g = G.real) (ht : t = TE.real) (h : I_IsScan g t a0 a1 = some r) : Fn Try.prog 40 [.g (Network.rs t a0), .g (Scan.rs t a1)] (.c (.r (.v (.bool r)))) := by
  obtain ⟨X, hX⟩ := hide (.c (.r (.v (.bool r))) : X)
  rw [← hX]
  refine fn_of (rvs := rv40) (j := (ir40 str_k0)) Try.func40 rfl fit40 (Nat.le_of_ble_eq_true rfl) (by kernel_rfl) prog_mixed ?_
  intro g2 F hg2 hF
  obtain rfl : g2 = g := hg2.unique.trans hg.symm
  clear hg2
  obtain ⟨wrap, lt, le, eq, quo, rem, band, bor, bxor, shl, shr, nat, int, add, sub, mul, cat, seq, slt, sub3, byte, llen, nadd, nsub, dlen, dapp, dset, drep, rd, rda, up, rsub, dsub, all, sle, slen, hasI, putI, hasS, putS, imin, imax, fzc, bstr⟩ := g2
  obtain ⟨r_Leg, d_Leg, r_I64, d_I64, r_Booking, d_Booking, r_Trip, d_Trip, r_S, d_S, r_LI64, d_LI64, r_U8, d_U8, r_Fd⟩ := t
  obtain ⟨a0_Legs, a0_Off, a0_Change⟩ := a0
  obtain ⟨a1_Thing, a1_At, a1_Kind, a1_Place, ⟨a1_Trip_Leg, a1_Trip_Day⟩⟩ := a1
  unfold I_IsScan at h
  try dsimp only at h
  obtain ⟨s_k0, hs_k0⟩ : ∃ s, str_k0 = s := ⟨_, rfl⟩
  try rw [hs_k0] at h
  rw [hs_k0]
  cbv
  obtain ⟨x1, hx1, h⟩ := of_cl h
  try dsimp only at h
  refine ACall.mk _ _ rfl (hF _ _ _ (c_I_IsNetwork hg ht hx1)) (.inl rfl) (Nat.le_of_ble_eq_true rfl) ?_
  cbv
  cases hb1 : x1 with
  | true =>
    rw [br_true hb1] at h
    cbv
    try (rw [hb1]; cbv)
    try (rw [hb1]; cbv)
    obtain ⟨x2, hx2, h⟩ := of_lP h
    try dsimp only at h
    refine ACall.mk _ _ rfl (hF _ _ _ (c_I_within hg ht hx2)) (.inl rfl) (Nat.le_of_ble_eq_true rfl) ?_
    cbv
    try (rw [hb1]; cbv)
    try (rw [hb1]; cbv)
    cases hb2 : x2 with
    | true =>
      rw [br_true hb2] at h
      cbv
      try (rw [hb2]; cbv)
      try (rw [hb2]; cbv)
      obtain ⟨x3, hx3, h⟩ := of_lP h
      try dsimp only at h
      refine ACall.mk _ _ rfl (hF _ _ _ (c_I_within hg ht hx3)) (.inl rfl) (Nat.le_of_ble_eq_true rfl) ?_
      cbv
      try (rw [hb2]; cbv)
      try (rw [hb2]; cbv)
      cases hb3 : x3 with
      | true =>
        rw [br_true hb3] at h
        cbv
        cases hb4 : (eq a1_Kind 1) with
        | true =>
          rw [br_true hb4] at h
          cbv
          try (rw [hb4]; cbv)
          obtain ⟨x4, hx4, h⟩ := of_cl h
          try dsimp only at h
          refine ACall.mk _ _ rfl (hF _ _ _ (c_I_PlacesOf hg ht hx4)) (.inl rfl) (Nat.le_of_ble_eq_true rfl) ?_
          cbv
          refine AStep.mk (lend_S ht (dlen_S hg ht _)) ?_
          cbv
          obtain ⟨x5, hx5, h⟩ := of_lP h
          try dsimp only at h
          refine ACall.mk _ _ (by rw [show rd (d_S x4) 0 (dlen (d_S x4)) = r_S x4 from rdw_S hg ht (dlen_S hg ht _)]; try rfl) (hF _ _ _ (c_I_placeAt hg ht hx5)) (.inr rfl) (Nat.le_of_ble_eq_true rfl) ?_
          cbv
          cases hb5 : (le 0 x5) with
          | true =>
            rw [br_true hb5] at h
            cbv
            try (rw [hb5]; cbv)
            try (rw [hb5]; cbv)
            try (rw [hb5]; cbv)
            try (rw [hb5]; cbv)
            obtain rfl := Option.some.inj h
            exact ARet.mk trivial hX.symm
          | false =>
            rw [br_false hb5] at h
            cbv
            try (rw [hb5]; cbv)
            try (rw [hb5]; cbv)
            try (rw [hb5]; cbv)
            try (rw [hb5]; cbv)
            obtain rfl := Option.some.inj h
            exact ARet.mk trivial hX.symm
        | false =>
          rw [br_false hb4] at h
          cbv
          cases hb6 : (eq a1_Kind 4) with
          | true =>
            rw [br_true hb6] at h
            cbv
            obtain ⟨x6, hx6, h⟩ := of_cl h
            try dsimp only at h
            refine ACall.mk _ _ rfl (hF _ _ _ (c_I_PlacesOf hg ht hx6)) (.inl rfl) (Nat.le_of_ble_eq_true rfl) ?_
            cbv
            refine AStep.mk (lend_S ht (dlen_S hg ht _)) ?_
            cbv
            obtain ⟨x7, hx7, h⟩ := of_lP h
            try dsimp only at h
            refine ACall.mk _ _ (by rw [show rd (d_S x6) 0 (dlen (d_S x6)) = r_S x6 from rdw_S hg ht (dlen_S hg ht _)]; try rfl) (hF _ _ _ (c_I_placeAt hg ht hx7)) (.inr rfl) (Nat.le_of_ble_eq_true rfl) ?_
            cbv
            cases hb7 : (le 0 x7) with
            | true =>
              rw [br_true hb7] at h
              cbv
              try (rw [hb7]; cbv)
              try (rw [hb7]; cbv)
              try (rw [hb7]; cbv)
              try (rw [hb7]; cbv)
              obtain rfl := Option.some.inj h
              exact ARet.mk trivial hX.symm
            | false =>
              rw [br_false hb7] at h
              cbv
              try (rw [hb7]; cbv)
              try (rw [hb7]; cbv)
              try (rw [hb7]; cbv)
              try (rw [hb7]; cbv)
              obtain rfl := Option.some.inj h
              exact ARet.mk trivial hX.symm
          | false =>
            rw [br_false hb6] at h
            cbv
            cases hb8 : (eq a1_Kind 3) with
            | true =>
              rw [br_true hb8] at h
              cbv
              cases hb9 : (seq a1_Place s_k0) with
              | true =>
                rw [br_true hb9] at h
                cbv
                try (rw [hb9]; cbv)
                try (rw [hb9]; cbv)
                try (rw [hb9]; cbv)
                obtain ⟨x8, hx8, h⟩ := of_cl h
                try dsimp only at h
                refine ACall.mk _ _ rfl (hF _ _ _ (c_I_IsTrip hg ht hx8)) (.inl rfl) (Nat.le_of_ble_eq_true rfl) ?_
                cbv
                try (rw [hb9]; cbv)
                cases hb10 : x8 with
                | true =>
                  rw [br_true hb10] at h
                  cbv
                  try (rw [hb10]; cbv)
                  try (rw [hb10]; cbv)
                  try (rw [hb10]; cbv)
                  try (rw [hb10]; cbv)
                  try (rw [hb10]; cbv)
                  obtain ⟨x9, hx9, h⟩ := of_cl h
                  try dsimp only at h
                  refine ACall.mk _ _ rfl (hF _ _ _ (c_I_starts hg ht hx9)) (.inl rfl) (Nat.le_of_ble_eq_true rfl) ?_
                  cbv
                  try (rw [hb10]; cbv)
                  try (rw [hb10]; cbv)
                  obtain rfl := Option.some.inj h
                  exact ARet.mk trivial hX.symm
                | false =>
                  rw [br_false hb10] at h
                  cbv
                  try (rw [hb10]; cbv)
                  try (rw [hb10]; cbv)
                  try (rw [hb10]; cbv)
                  try (rw [hb10]; cbv)
                  try (rw [hb10]; cbv)
                  try (rw [hb10]; cbv)
                  try (rw [hb10]; cbv)
                  obtain rfl := Option.some.inj h
                  exact ARet.mk trivial hX.symm
              | false =>
                rw [br_false hb9] at h
                cbv
                try (rw [hb9]; cbv)
                try (rw [hb9]; cbv)
                try (rw [hb9]; cbv)
                try (rw [hb9]; cbv)
                obtain rfl := Option.some.inj h
                exact ARet.mk trivial hX.symm
            | false =>
              rw [br_false hb8] at h
              cbv
              cases hb11 : (eq a1_Kind 2) with
              | true =>
                rw [br_true hb11] at h
                cbv
                cases hb12 : (seq a1_Place s_k0) with
                | true =>
                  rw [br_true hb12] at h
                  cbv
                  try (rw [hb12]; cbv)
                  try (rw [hb12]; cbv)
                  try (rw [hb12]; cbv)
                  obtain ⟨x10, hx10, h⟩ := of_cl h
                  try dsimp only at h
                  refine ACall.mk _ _ rfl (hF _ _ _ (c_I_IsTrip hg ht hx10)) (.inl rfl) (Nat.le_of_ble_eq_true rfl) ?_
                  cbv
                  try (rw [hb12]; cbv)
                  cases hb13 : x10 with
                  | true =>
                    rw [br_true hb13] at h
                    cbv
                    try (rw [hb13]; cbv)
                    try (rw [hb13]; cbv)
                    try (rw [hb13]; cbv)
                    try (rw [hb13]; cbv)
                    try (rw [hb13]; cbv)
                    obtain ⟨x11, hx11, h⟩ := of_cl h
                    try dsimp only at h
                    refine ACall.mk _ _ rfl (hF _ _ _ (c_I_ends hg ht hx11)) (.inl rfl) (Nat.le_of_ble_eq_true rfl) ?_
                    cbv
                    try (rw [hb13]; cbv)
                    try (rw [hb13]; cbv)
                    obtain rfl := Option.some.inj h
                    exact ARet.mk trivial hX.symm
                  | false =>
                    rw [br_false hb13] at h
                    cbv
                    try (rw [hb13]; cbv)
                    try (rw [hb13]; cbv)
                    try (rw [hb13]; cbv)
                    try (rw [hb13]; cbv)
                    try (rw [hb13]; cbv)
                    try (rw [hb13]; cbv)
                    try (rw [hb13]; cbv)
                    obtain rfl := Option.some.inj h
                    exact ARet.mk trivial hX.symm
                | false =>
                  rw [br_false hb12] at h
                  cbv
                  try (rw [hb12]; cbv)
                  try (rw [hb12]; cbv)
                  try (rw [hb12]; cbv)
                  try (rw [hb12]; cbv)
                  obtain rfl := Option.some.inj h
                  exact ARet.mk trivial hX.symm
              | false =>
                rw [br_false hb11] at h
                cbv
                obtain rfl := Option.some.inj h
                exact ARet.mk trivial hX.symm
      | false =>
        rw [br_false hb3] at h
        cbv
        obtain rfl := Option.some.inj h
        exact ARet.mk trivial hX.symm
    | false =>
      rw [br_false hb2] at h
      cbv
      try (rw [hb2]; cbv)
      try (rw [hb2]; cbv)
      try (rw [hb2]; cbv)
      try (rw [hb2]; cbv)
      obtain rfl := Option.some.inj h
      exact ARet.mk trivial hX.symm
  | false =>
    rw [br_false hb1] at h
    cbv
    try (rw [hb1]; cbv)
    try (rw [hb1]; cbv)
    try (rw [hb1]; cbv)
    try (rw [hb1]; cbv)
    obtain rfl := Option.some.inj h
    exact ARet.mk trivial hX.symm
end Go.Vs
namespace Go.Vs
set_option maxRecDepth 100000
def ir76 : J :=
  .seq (.reg none [⟨(some 2), none, .mv (.k (V.i 0))⟩] [0])
  (.seq (.seq (.reg none [⟨(some 5), none, .mv (.t 0)⟩,
      ⟨(some 6), none, .len false (.t 5)⟩,
      ⟨(some 7), none, .mv (.k (V.i 0))⟩] [5, 6, 7])
   (.bl 0 (.seq (.reg none [⟨(some 8), none, .bin .lss .i (.t 7) (.t 6)⟩] [5, 6, 7, 8])
    (.seq (.cond (.t 8)
      (.skip)
      (.exit 0))
    (.seq (.block 1 (.seq (.reg none [⟨(some 9), none, .ia 1 (.t 5) (.t 7)⟩,
         ⟨(some 10), none, .ld false 1 (.t 9)⟩,
         ⟨(some 4), none, .mv (.t 10)⟩] [4, 5, 6, 7])
      (.seq (.reg none [⟨(some 11), none, .mv (.t 4)⟩,
         ⟨(some 12), none, .bin .neq .i (.t 11) (.k (V.i 0))⟩] [4, 5, 6, 7, 12])
      (.cond (.t 12)
       (.seq (.reg none [⟨(some 13), none, .mv (.t 4)⟩,
           ⟨(some 2), none, .mv (.t 13)⟩] [2])
        (.ret))
       (.skip)))))
    (.reg none [⟨(some 14), none, .bin .add .i (.t 7) (.k (V.i 1))⟩,
      ⟨(some 7), none, .mv (.t 14)⟩] [5, 6, 7]))))))
  (.seq (.reg none [⟨(some 2), none, .mv (.k (V.i 0))⟩] [2])
  (.ret)))
def rv76 : List RV := [.t 2]
open Go.Proofs Go.IntWalk
set_option linter.unusedVariables false
set_option maxRecDepth 100000
set_option maxHeartbeats 4000000
def I_first_l1 (g : G) (t : TE) : List Int → LR Int Unit
  | [] =>
    (LR.out ())
  | z1 :: ls1 =>
    br (g.eq z1 0)
    (
     I_first_l1 g t ls1)
    (
     (LR.ret z1))
def I_first (g : G) (t : TE) (a0 : List Int) : Int :=
  lP (I_first_l1 g t a0) fun o1 => lrp o1 fun y1 =>
  0
theorem fit76 : codeFit Try.prog Try.f76.ntmps (Try.f76.body.getD .skip) ir76 = true := by kernel_rfl
theorem c_I_first {g : G} {t : TE} {a0 : List Int} {r : Int} (hg : g = G.real) (ht : t = TE.real) (h : I_first g t a0 = r) : Fn Try.prog 76 [.c (.s 1 (t.r_I64 a0))] (.c (.r (.v (.int .i64 r)))) := by
  obtain ⟨X, hX⟩ := hide (.c (.r (.v (.int .i64 r))) : X)
  rw [← hX]
  refine fn_of (rvs := rv76) (j := ir76) Try.func76 rfl fit76 (Nat.le_of_ble_eq_true rfl) (by kernel_rfl) prog_mixed ?_
  intro g2 F hg2 hF
  obtain rfl : g2 = g := hg2.unique.trans hg.symm
  clear hg2
  obtain ⟨wrap, lt, le, eq, quo, rem, band, bor, bxor, shl, shr, nat, int, add, sub, mul, cat, seq, slt, sub3, byte, llen, nadd, nsub, dlen, dapp, dset, drep, rd, rda, up, rsub, dsub, all, sle, slen, hasI, putI, hasS, putS, imin, imax, fzc, bstr⟩ := g2
  obtain ⟨r_Leg, d_Leg, r_I64, d_I64, r_Booking, d_Booking, r_Trip, d_Trip, r_S, d_S, r_LI64, d_LI64, r_U8, d_U8, r_Fd⟩ := t
  unfold I_first at h
  try dsimp only at h
  cbv
  obtain ⟨o1, ho1, h⟩ := of_lP h
  try dsimp only at h
  try rw [hg] at ho1
  try rw [ht] at ho1
  refine ABL.mk { p : Nat × Int // p.1 ≤ a0.length ∧ p.2 = ((p.1 : Nat) : Int) ∧ I_first_l1 G.real TE.real (List.drop p.1 a0) = o1 } (fun ⟨⟨k1, v1⟩, _⟩ => ({ sl := [(5, .c (.r (.s 1 (r_I64 a0)))), (6, .c (.r (.v (.int .i64 (llen (r_I64 a0)))))), (7, .c (.r (.v (.int .i64 v1))))], tab := [] } : St)) 0 (fun p => a0.length - p.1.1) ⟨(0, 0), Nat.zero_le _, rfl, ho1⟩ (Unit) (fun _ => ({ sl := [], tab := [] } : St)) 0 (fun y => o1 = LR.out y) ?_ ?_ ?_
  · refine Wk.of [] rfl rfl ?_ ?_
    · cbv
      all_goals exact ⟨⟨_, rfl, rfl⟩, ⟨_, rfl, rfl⟩, ⟨_, rfl, rfl⟩, trivial⟩
    · cbv
      all_goals exact trivial
  · rintro ⟨⟨k1, v1⟩, hk1, hi1, h_1⟩ hq1
    have hm1 := (hq1.1 5 _ _ rfl)
    try dsimp only at hk1 hi1 h_1
    clear hq1
    cbv
    by_cases hc1_ : k1 < a0.length
    · have hb1 : lt v1 (llen (r_I64 a0)) = true := ltL_true_I64 hg ht hi1 hc1_
      have hs1 := stepL_I64 hg ht hi1 hc1_ hm1
      obtain ⟨z1, hz1⟩ := some_of_lt hc1_
      rw [drop_of_some hz1] at h_1
      rw [I_first_l1] at h_1
      try rw [← hg] at h_1
      try rw [← ht] at h_1
      try dsimp only at h_1
      rw [hb1]
      cbv
      refine AStep.mk (nn_L hi1) ?_
      cbv
      refine AGet.mk _ (r_getL_I64 hg ht hi1 hz1) ?_
      cbv
      cases hb2 : (eq z1 0) with
      | true =>
        rw [br_true hb2] at h_1
        cbv
        try rw [hg] at h_1
        try rw [ht] at h_1
        refine ⟨⟨(k1 + 1, (wrap .i64 (add v1 1))), hc1_, hs1, h_1⟩, Wk.of [] rfl rfl ?_ ?_, meas_L hc1_⟩
        · cbv
          all_goals exact ⟨⟨_, rfl, rfl⟩, ⟨_, rfl, rfl⟩, ⟨_, rfl, rfl⟩, trivial⟩
        · cbv
          all_goals exact trivial
      | false =>
        rw [br_false hb2] at h_1
        cbv
        subst h_1
        try dsimp only [lr, lrL, lrp, lrpL] at h
        subst h
        exact ARet.mk trivial hX.symm
    · have hb1 : lt v1 (llen (r_I64 a0)) = false := ltL_false_I64 hg ht hi1 hc1_
      rw [List.drop_of_length_le (Nat.le_of_not_lt hc1_)] at h_1
      rw [I_first_l1] at h_1
      try rw [← hg] at h_1
      try rw [← ht] at h_1
      try dsimp only at h_1
      rw [hb1]
      cbv
      refine ⟨(), Wk.of [] rfl rfl ?_ ?_, h_1.symm⟩
      · cbv
        all_goals exact trivial
      · cbv
        all_goals exact trivial
  · rintro _ hy1
    replace hy1 := hy1.symm
    subst hy1
    try dsimp only [lr, lrL, lrp, lrpL] at h
    cbv
    subst h
    exact ARet.mk trivial hX.symm
end Go.Vs
namespace Go.Vs
set_option maxRecDepth 100000
def ir77 : J :=
  .seq (.reg none [⟨(some 4), none, .mv (.k (V.i 0))⟩] [0, 1])
  (.seq (.block 0 (.seq (.reg none [⟨(some 6), none, .mv (.t 0)⟩,
       ⟨(some 7), none, .mv (.t 1)⟩,
       ⟨(some 8), none, .bin .lss .i (.t 6) (.t 7)⟩,
       ⟨(some 5), none, .mv (.t 8)⟩] [0, 1, 5])
    (.cond (.t 5)
     (.seq (.reg none [⟨(some 4), none, .mv (.k (V.i (-1)))⟩] [4])
      (.ret))
     (.seq (.reg none [⟨(some 10), none, .mv (.t 0)⟩,
         ⟨(some 11), none, .mv (.t 1)⟩,
         ⟨(some 12), none, .bin .gtr .i (.t 10) (.t 11)⟩,
         ⟨(some 9), none, .mv (.t 12)⟩] [9])
      (.cond (.t 9)
       (.seq (.reg none [⟨(some 4), none, .mv (.k (V.i 1))⟩] [4])
        (.ret))
       (.skip))))))
  (.seq (.reg none [⟨(some 4), none, .mv (.k (V.i 0))⟩] [4])
  (.ret)))
def rv77 : List RV := [.t 4]
open Go.Proofs Go.IntWalk
set_option linter.unusedVariables false
set_option maxRecDepth 100000
set_option maxHeartbeats 4000000
def I_compareInts (g : G) (t : TE) (a0 : Int) (a1 : Int) : Int :=
  br (g.lt a0 a1)
  (
   (-1))
  (
   br (g.lt a1 a0)
   (
    1)
   (
    0))
theorem fit77 : codeFit Try.prog Try.f77.ntmps (Try.f77.body.getD .skip) ir77 = true := by kernel_rfl
theorem c_I_compareInts {g : G} {t : TE} {a0 : Int} {a1 : Int} {r : Int} (hg : g = G.real) (ht : t = TE.real) (h : I_compareInts g t a0 a1 = r) : Fn Try.prog 77 [.c (.v (.int .i64 a0)), .c (.v (.int .i64 a1))] (.c (.r (.v (.int .i64 r)))) := by
  obtain ⟨X, hX⟩ := hide (.c (.r (.v (.int .i64 r))) : X)
  rw [← hX]
  refine fn_of (rvs := rv77) (j := ir77) Try.func77 rfl fit77 (Nat.le_of_ble_eq_true rfl) (by kernel_rfl) prog_mixed ?_
  intro g2 F hg2 hF
  obtain rfl : g2 = g := hg2.unique.trans hg.symm
  clear hg2
  obtain ⟨wrap, lt, le, eq, quo, rem, band, bor, bxor, shl, shr, nat, int, add, sub, mul, cat, seq, slt, sub3, byte, llen, nadd, nsub, dlen, dapp, dset, drep, rd, rda, up, rsub, dsub, all, sle, slen, hasI, putI, hasS, putS, imin, imax, fzc, bstr⟩ := g2
  obtain ⟨r_Leg, d_Leg, r_I64, d_I64, r_Booking, d_Booking, r_Trip, d_Trip, r_S, d_S, r_LI64, d_LI64, r_U8, d_U8, r_Fd⟩ := t
  unfold I_compareInts at h
  try dsimp only at h
  cbv
  cases hb1 : (lt a0 a1) with
  | true =>
    rw [br_true hb1] at h
    cbv
    subst h
    exact ARet.mk trivial hX.symm
  | false =>
    rw [br_false hb1] at h
    cbv
    cases hb2 : (lt a1 a0) with
    | true =>
      rw [br_true hb2] at h
      cbv
      subst h
      exact ARet.mk trivial hX.symm
    | false =>
      rw [br_false hb2] at h
      cbv
      subst h
      exact ARet.mk trivial hX.symm
end Go.Vs
namespace Go.Vs
open Go.Proofs Go.RowKit
set_option maxHeartbeats 1000000
set_option maxRecDepth 100000
theorem X_strings_Compare_c (a b : ByteArray) (w : Go.World) :
    Calls Try.prog 103 #[.string a, .string b] w fun e w' => e = .returned (.int .i64 (Lib.compareBytes a.data.toList b.data.toList)) ∧ w' = w := by
  go_enter Try.func103, Try.ntmps103
  go_wp2
  rw [run_callFunc_extern Try.func111 (by kernel_rfl) (by kernel_rfl) (by kernel_rfl) (e := Extern.BytealgCompare.compare) (by kernel_rfl), Lib.run_compareString]
  simp only [Result.andThen]
  rw [Oper.upon_value]
  go_wp2
  go_ret
  exact ⟨rfl, rfl⟩
theorem X_strings_Compare_d (a b : ByteArray) (w : Go.World) :
    Calls Try.prog 78 #[.string a, .string b] w fun e w' => e = .returned (.int .i64 (Lib.compareBytes a.data.toList b.data.toList)) ∧ w' = w := by
  go_enter Try.func78, Try.ntmps78
  go_wp2_with (go_at_call 103; refine (X_strings_Compare_c _ _ _).mono ?_; rintro e w' ⟨rfl, rfl⟩)
  go_ret
  exact ⟨rfl, rfl⟩
def X_strings_Compare (g : G) (t : TE) (a b : ByteArray) : Int := Lib.compareBytes a.data.toList b.data.toList
theorem c_X_strings_Compare {g : G} {t : TE} {a0 a1 : ByteArray} {r : Int} (hg : g = G.real) (ht : t = TE.real) (h : X_strings_Compare g t a0 a1 = r) : Fn Try.prog 78 [.c (.v (.string a0)), .c (.v (.string a1))] (.c (.r (.v (.int .i64 r)))) := by
  subst h
  exact fn_lib (xs := [.string a0, .string a1]) rfl (fun w => X_strings_Compare_d a0 a1 w)
end Go.Vs
namespace Go.Vs
set_option maxRecDepth 100000
def ir41 : J :=
  .seq (.reg none [⟨(some 2), none, .box (.t 0)⟩,
     ⟨(some 3), none, .box (.t 1)⟩,
     ⟨(some 4), none, .mv (.k (V.i 0))⟩] [2, 3])
  (.seq (.reg (some [[], [0], [], [2], [0, 1, 2, 3], [], [5], [], [7], [0, 1, 2, 3, 4, 5, 6, 7, 8], [], [10], [], [12], [0, 1, 2, 3, 4, 5, 6, 7, 8, 9, 10, 11, 12, 13], [], [15], [15, 16], [], [18], [18, 19], [0, 1, 2, 3, 4, 5, 6, 7, 8, 9, 10, 11, 12, 13, 14, 15, 16, 17, 18, 19, 20], [], [22], [22, 23], [], [25], [25, 26], [0, 1, 2, 3, 4, 5, 6, 7, 8, 9, 10, 11, 12, 13, 14, 15, 16, 17, 18, 19, 20, 21, 22, 23, 24, 25, 26, 27], [], [29], [], [31], [0, 1, 2, 3, 4, 5, 6, 7, 8, 9, 10, 11, 12, 13, 14, 15, 16, 17, 18, 19, 20, 21, 22, 23, 24, 25, 26, 27, 28, 29, 30, 31, 32], [0, 1, 2, 3, 4, 5, 6, 7, 8, 9, 10, 11, 12, 13, 14, 15, 16, 17, 18, 19, 20, 21, 22, 23, 24, 25, 26, 27, 28, 29, 30, 31, 32, 33], [0, 1, 2, 3, 4, 5, 6, 7, 8, 9, 10, 11, 12, 13, 14, 15, 16, 17, 18, 19, 20, 21, 22, 23, 24, 25, 26, 27, 28, 29, 30, 31, 32, 33, 34], [0, 1, 2, 3, 4, 5, 6, 7, 8, 9, 10, 11, 12, 13, 14, 15, 16, 17, 18, 19, 20, 21, 22, 23, 24, 25, 26, 27, 28, 29, 30, 31, 32, 33, 34, 35]]) [⟨(some 5), none, .fa 1 (.t 2)⟩,
     ⟨(some 6), none, .ld false 1 (.t 5)⟩,
     ⟨(some 7), none, .fa 1 (.t 3)⟩,
     ⟨(some 8), none, .ld false 1 (.t 7)⟩,
     ⟨(some 9), none, .call 77 true [(.t 6), (.t 8)]⟩,
     ⟨(some 10), none, .fa 0 (.t 2)⟩,
     ⟨(some 11), none, .ld false 1 (.t 10)⟩,
     ⟨(some 12), none, .fa 0 (.t 3)⟩,
     ⟨(some 13), none, .ld false 1 (.t 12)⟩,
     ⟨(some 14), none, .call 77 true [(.t 11), (.t 13)]⟩,
     ⟨(some 15), none, .fa 2 (.t 2)⟩,
     ⟨(some 16), none, .ld false 1 (.t 15)⟩,
     ⟨(some 17), none, .fa 2 (.t 3)⟩,
     ⟨(some 18), none, .ld false 1 (.t 17)⟩,
     ⟨(some 19), none, .call 77 true [(.t 16), (.t 18)]⟩,
     ⟨(some 20), none, .fa 4 (.t 2)⟩,
     ⟨(some 21), none, .fa 1 (.t 20)⟩,
     ⟨(some 22), none, .ld false 1 (.t 21)⟩,
     ⟨(some 23), none, .fa 4 (.t 3)⟩,
     ⟨(some 24), none, .fa 1 (.t 23)⟩,
     ⟨(some 25), none, .ld false 1 (.t 24)⟩,
     ⟨(some 26), none, .call 77 true [(.t 22), (.t 25)]⟩,
     ⟨(some 27), none, .fa 4 (.t 2)⟩,
     ⟨(some 28), none, .fa 0 (.t 27)⟩,
     ⟨(some 29), none, .ld false 1 (.t 28)⟩,
     ⟨(some 30), none, .fa 4 (.t 3)⟩,
     ⟨(some 31), none, .fa 0 (.t 30)⟩,
     ⟨(some 32), none, .ld false 1 (.t 31)⟩,
     ⟨(some 33), none, .call 77 true [(.t 29), (.t 32)]⟩,
     ⟨(some 34), none, .fa 3 (.t 2)⟩,
     ⟨(some 35), none, .ld false 1 (.t 34)⟩,
     ⟨(some 36), none, .fa 3 (.t 3)⟩,
     ⟨(some 37), none, .ld false 1 (.t 36)⟩,
     ⟨(some 38), none, .call 78 true [(.t 35), (.t 37)]⟩,
     ⟨(some 39), none, .bsl 1 [(.t 9), (.t 14), (.t 19), (.t 26), (.t 33), (.t 38)]⟩,
     ⟨(some 40), none, .call 76 true [(.t 39)]⟩,
     ⟨(some 4), none, .mv (.t 40)⟩] [4])
  (.ret))
def rv41 : List RV := [.t 4]
open Go.Proofs Go.IntWalk
set_option linter.unusedVariables false
set_option maxRecDepth 100000
set_option maxHeartbeats 4000000
def I_CompareScans (g : G) (t : TE) (a0 : Scan) (a1 : Scan) : Int :=
  lP (I_compareInts g t a0.At a1.At) fun x1 =>
  lP (I_compareInts g t a0.Thing a1.Thing) fun x2 =>
  lP (I_compareInts g t a0.Kind a1.Kind) fun x3 =>
  lP (I_compareInts g t a0.Trip.Day a1.Trip.Day) fun x4 =>
  lP (I_compareInts g t a0.Trip.Leg a1.Trip.Leg) fun x5 =>
  lP (X_strings_Compare g t a0.Place a1.Place) fun x6 =>
  lP ([x1, x2, x3, x4, x5, x6]) fun (l1 : List Int) =>
  lP (I_first g t l1) fun x7 =>
  x7
theorem fit41 : codeFit Try.prog Try.f41.ntmps (Try.f41.body.getD .skip) ir41 = true := by kernel_rfl
theorem c_I_CompareScans {g : G} {t : TE} {a0 : Scan} {a1 : Scan} {r : Int} (hg : g = G.real) (ht : t = TE.real) (h : I_CompareScans g t a0 a1 = r) : Fn Try.prog 41 [.g (Scan.rs t a0), .g (Scan.rs t a1)] (.c (.r (.v (.int .i64 r)))) := by
  obtain ⟨X, hX⟩ := hide (.c (.r (.v (.int .i64 r))) : X)
  rw [← hX]
  refine fn_of (rvs := rv41) (j := ir41) Try.func41 rfl fit41 (Nat.le_of_ble_eq_true rfl) (by kernel_rfl) prog_mixed ?_
  intro g2 F hg2 hF
  obtain rfl : g2 = g := hg2.unique.trans hg.symm
  clear hg2
  obtain ⟨wrap, lt, le, eq, quo, rem, band, bor, bxor, shl, shr, nat, int, add, sub, mul, cat, seq, slt, sub3, byte, llen, nadd, nsub, dlen, dapp, dset, drep, rd, rda, up, rsub, dsub, all, sle, slen, hasI, putI, hasS, putS, imin, imax, fzc, bstr⟩ := g2
  obtain ⟨r_Leg, d_Leg, r_I64, d_I64, r_Booking, d_Booking, r_Trip, d_Trip, r_S, d_S, r_LI64, d_LI64, r_U8, d_U8, r_Fd⟩ := t
  obtain ⟨a0_Thing, a0_At, a0_Kind, a0_Place, ⟨a0_Trip_Leg, a0_Trip_Day⟩⟩ := a0
  obtain ⟨a1_Thing, a1_At, a1_Kind, a1_Place, ⟨a1_Trip_Leg, a1_Trip_Day⟩⟩ := a1
  unfold I_CompareScans at h
  try dsimp only at h
  cbv
  obtain ⟨x1, hx1, h⟩ := of_lP h
  try dsimp only at h
  refine ACall.mk _ _ rfl (hF _ _ _ (c_I_compareInts hg ht hx1)) (.inl rfl) (Nat.le_of_ble_eq_true rfl) ?_
  cbv
  obtain ⟨x2, hx2, h⟩ := of_lP h
  try dsimp only at h
  refine ACall.mk _ _ rfl (hF _ _ _ (c_I_compareInts hg ht hx2)) (.inl rfl) (Nat.le_of_ble_eq_true rfl) ?_
  cbv
  obtain ⟨x3, hx3, h⟩ := of_lP h
  try dsimp only at h
  refine ACall.mk _ _ rfl (hF _ _ _ (c_I_compareInts hg ht hx3)) (.inl rfl) (Nat.le_of_ble_eq_true rfl) ?_
  cbv
  obtain ⟨x4, hx4, h⟩ := of_lP h
  try dsimp only at h
  refine ACall.mk _ _ rfl (hF _ _ _ (c_I_compareInts hg ht hx4)) (.inl rfl) (Nat.le_of_ble_eq_true rfl) ?_
  cbv
  obtain ⟨x5, hx5, h⟩ := of_lP h
  try dsimp only at h
  refine ACall.mk _ _ rfl (hF _ _ _ (c_I_compareInts hg ht hx5)) (.inl rfl) (Nat.le_of_ble_eq_true rfl) ?_
  cbv
  obtain ⟨x6, hx6, h⟩ := of_lP h
  try dsimp only at h
  refine ACall.mk _ _ rfl (hF _ _ _ (c_X_strings_Compare hg ht hx6)) (.inl rfl) (Nat.le_of_ble_eq_true rfl) ?_
  cbv
  obtain ⟨l1, hl1, h⟩ := of_lP h
  try dsimp only at h
  refine ANew.mk (d_I64 l1) (dlen (d_I64 l1)) (by rw [← hl1]; exact lit_I64 hg ht [x1, x2, x3, x4, x5, x6]) (by rw [← hl1]; exact litn_I64 hg ht [x1, x2, x3, x4, x5, x6]) ?_
  cbv
  refine AStep.mk (lend_I64 ht (dlen_I64 hg ht _)) ?_
  cbv
  obtain ⟨x7, hx7, h⟩ := of_lP h
  try dsimp only at h
  refine ACall.mk _ _ (by rw [show rd (d_I64 l1) 0 (dlen (d_I64 l1)) = r_I64 l1 from rdw_I64 hg ht (dlen_I64 hg ht _)]; try rfl) (hF _ _ _ (c_I_first hg ht hx7)) (.inr rfl) (Nat.le_of_ble_eq_true rfl) ?_
  cbv
  subst h
  exact ARet.mk trivial hX.symm
end Go.Vs
namespace Go.Vs
set_option maxRecDepth 100000
def ir91 : J :=
  .seq (.reg none [⟨(some 3), none, .box (.t 0)⟩,
     ⟨(some 6), none, .mv (.k (V.i 0))⟩] [1, 2, 3])
  (.seq (.seq (.reg none [⟨(some 7), none, .mv (.t 2)⟩] [1, 3, 7])
   (.cond (.t 7)
    (.seq (.reg none [⟨(some 8), none, .mv (.t 1)⟩,
        ⟨(some 6), none, .mv (.t 8)⟩] [6])
     (.ret))
    (.skip)))
  (.seq (.reg none [⟨(some 9), none, .mv (.t 1)⟩,
     ⟨(some 10), none, .fa 2 (.t 3)⟩,
     ⟨(some 11), none, .ld false 1 (.t 10)⟩,
     ⟨(some 12), none, .bin .add .i (.t 9) (.t 11)⟩,
     ⟨(some 6), none, .mv (.t 12)⟩] [6])
  (.ret)))
def rv91 : List RV := [.t 6]
open Go.Proofs Go.IntWalk
set_option linter.unusedVariables false
set_option maxRecDepth 100000
set_option maxHeartbeats 4000000
def I_readyAt (g : G) (t : TE) (a0 : Network) (a1 : Int) (a2 : Bool) : Int :=
  br a2
  (
   a1)
  (
   (g.wrap .i64 (g.add a1 a0.Change)))
theorem fit91 : codeFit Try.prog Try.f91.ntmps (Try.f91.body.getD .skip) ir91 = true := by kernel_rfl
theorem c_I_readyAt {g : G} {t : TE} {a0 : Network} {a1 : Int} {a2 : Bool} {r : Int} (hg : g = G.real) (ht : t = TE.real) (h : I_readyAt g t a0 a1 a2 = r) : Fn Try.prog 91 [.g (Network.rs t a0), .c (.v (.int .i64 a1)), .c (.v (.bool a2))] (.c (.r (.v (.int .i64 r)))) := by
  obtain ⟨X, hX⟩ := hide (.c (.r (.v (.int .i64 r))) : X)
  rw [← hX]
  refine fn_of (rvs := rv91) (j := ir91) Try.func91 rfl fit91 (Nat.le_of_ble_eq_true rfl) (by kernel_rfl) prog_mixed ?_
  intro g2 F hg2 hF
  obtain rfl : g2 = g := hg2.unique.trans hg.symm
  clear hg2
  obtain ⟨wrap, lt, le, eq, quo, rem, band, bor, bxor, shl, shr, nat, int, add, sub, mul, cat, seq, slt, sub3, byte, llen, nadd, nsub, dlen, dapp, dset, drep, rd, rda, up, rsub, dsub, all, sle, slen, hasI, putI, hasS, putS, imin, imax, fzc, bstr⟩ := g2
  obtain ⟨r_Leg, d_Leg, r_I64, d_I64, r_Booking, d_Booking, r_Trip, d_Trip, r_S, d_S, r_LI64, d_LI64, r_U8, d_U8, r_Fd⟩ := t
  obtain ⟨a0_Legs, a0_Off, a0_Change⟩ := a0
  unfold I_readyAt at h
  try dsimp only at h
  cbv
  cases hb1 : a2 with
  | true =>
    rw [br_true hb1] at h
    cbv
    subst h
    exact ARet.mk trivial hX.symm
  | false =>
    rw [br_false hb1] at h
    cbv
    subst h
    exact ARet.mk trivial hX.symm
end Go.Vs
namespace Go.Vs
set_option maxRecDepth 100000
def ir90 : J :=
  .seq (.reg none [⟨(some 3), none, .box (.t 1)⟩,
     ⟨(some 4), none, .mv (.k (V.i 0))⟩] [0, 3])
  (.seq (.reg none [⟨(some 5), none, .mv (.k (V.i 0))⟩] [0, 3, 5])
  (.seq (.seq (.reg none [⟨(some 8), none, .mv (.t 0)⟩,
      ⟨(some 9), none, .len false (.t 8)⟩,
      ⟨(some 10), none, .mv (.k (V.i 0))⟩] [3, 5, 8, 9, 10])
   (.bl 0 (.seq (.reg none [⟨(some 11), none, .bin .lss .i (.t 10) (.t 9)⟩] [3, 5, 8, 9, 10, 11])
    (.seq (.cond (.t 11)
      (.skip)
      (.exit 0))
    (.seq (.block 1 (.seq (.reg none [⟨(some 12), none, .ia 4 (.t 8) (.t 10)⟩,
         ⟨(some 13), none, .ld true 4 (.t 12)⟩,
         ⟨(some 7), none, .alloc [.r (.v (.int .i64 0)), .r (.v (.int .i64 0)), .r (.v (.int .i64 0)), .r (.v (.int .i64 0))]⟩,
         ⟨none, none, .st 4 (.t 7) (.t 13)⟩] [3, 5, 7, 8, 9, 10])
      (.seq (.reg none [⟨(some 14), none, .fa 1 (.t 7)⟩,
         ⟨(some 15), none, .ld true 2 (.t 14)⟩,
         ⟨(some 16), none, .ld true 2 (.t 3)⟩,
         ⟨(some 17), none, .eqs false [.i, .i] (.t 15) (.t 16)⟩] [3, 5, 7, 8, 9, 10, 17])
      (.cond (.t 17)
       (.reg none [⟨(some 18), none, .mv (.t 5)⟩,
          ⟨(some 19), none, .fa 3 (.t 7)⟩,
          ⟨(some 20), none, .ld false 1 (.t 19)⟩,
          ⟨(some 21), none, .bin .add .i (.t 18) (.t 20)⟩,
          ⟨(some 5), none, .mv (.t 21)⟩] [3, 5, 8, 9, 10])
       (.skip)))))
    (.reg none [⟨(some 22), none, .bin .add .i (.t 10) (.k (V.i 1))⟩,
      ⟨(some 10), none, .mv (.t 22)⟩] [3, 5, 8, 9, 10]))))))
  (.seq (.reg none [⟨(some 23), none, .mv (.t 5)⟩,
     ⟨(some 4), none, .mv (.t 23)⟩] [4])
  (.ret))))
def rv90 : List RV := [.t 4]
open Go.Proofs Go.IntWalk
set_option linter.unusedVariables false
set_option maxRecDepth 100000
set_option maxHeartbeats 4000000
def I_LoadOf_l1 (g : G) (t : TE) (a1 : Trip) : List Booking → Int → Int
  | [], v1 =>
    v1
  | z1 :: ls1, v1 =>
    br (g.all [(g.eq z1.Trip.Leg a1.Leg), (g.eq z1.Trip.Day a1.Day)])
    (
     I_LoadOf_l1 g t a1 ls1 (g.wrap .i64 (g.add v1 z1.Weight)))
    (
     I_LoadOf_l1 g t a1 ls1 v1)
def I_LoadOf (g : G) (t : TE) (a0 : List Booking) (a1 : Trip) : Int :=
  lP (I_LoadOf_l1 g t a1 a0 0) fun y1 =>
  y1
theorem fit90 : codeFit Try.prog Try.f90.ntmps (Try.f90.body.getD .skip) ir90 = true := by kernel_rfl
theorem c_I_LoadOf {g : G} {t : TE} {a0 : List Booking} {a1 : Trip} {r : Int} (hg : g = G.real) (ht : t = TE.real) (h : I_LoadOf g t a0 a1 = r) : Fn Try.prog 90 [.c (.s 4 (t.r_Booking a0)), .g (Trip.rs t a1)] (.c (.r (.v (.int .i64 r)))) := by
  obtain ⟨X, hX⟩ := hide (.c (.r (.v (.int .i64 r))) : X)
  rw [← hX]
  refine fn_of (rvs := rv90) (j := ir90) Try.func90 rfl fit90 (Nat.le_of_ble_eq_true rfl) (by kernel_rfl) prog_mixed ?_
  intro g2 F hg2 hF
  obtain rfl : g2 = g := hg2.unique.trans hg.symm
  clear hg2
  obtain ⟨wrap, lt, le, eq, quo, rem, band, bor, bxor, shl, shr, nat, int, add, sub, mul, cat, seq, slt, sub3, byte, llen, nadd, nsub, dlen, dapp, dset, drep, rd, rda, up, rsub, dsub, all, sle, slen, hasI, putI, hasS, putS, imin, imax, fzc, bstr⟩ := g2
  obtain ⟨r_Leg, d_Leg, r_I64, d_I64, r_Booking, d_Booking, r_Trip, d_Trip, r_S, d_S, r_LI64, d_LI64, r_U8, d_U8, r_Fd⟩ := t
  obtain ⟨a1_Leg, a1_Day⟩ := a1
  unfold I_LoadOf at h
  try dsimp only at h
  cbv
  obtain ⟨o1, ho1, h⟩ := of_lP h
  try dsimp only at h
  try rw [hg] at ho1
  try rw [ht] at ho1
  refine ABL.mk { p : Nat × Int × Int // p.1 ≤ a0.length ∧ p.2.1 = ((p.1 : Nat) : Int) ∧ I_LoadOf_l1 G.real TE.real (Trip.mk a1_Leg a1_Day) (List.drop p.1 a0) p.2.2 = o1 } (fun ⟨⟨k1, v2, v1⟩, _⟩ => ({ sl := [(3, .c (.p 0 2 0 0)), (5, .c (.r (.v (.int .i64 v1)))), (8, .c (.r (.s 4 (r_Booking a0)))), (9, .c (.r (.v (.int .i64 (llen (r_Booking a0)))))), (10, .c (.r (.v (.int .i64 v2))))], tab := [(0, some (.foc 2 [] [.r (.v (.int .i64 a1_Leg)), .r (.v (.int .i64 a1_Day))] []))] } : St)) 1 (fun p => a0.length - p.1.1) ⟨(0, 0, 0), Nat.zero_le _, rfl, ho1⟩ (Int) (fun y1 => ({ sl := [(5, .c (.r (.v (.int .i64 y1))))], tab := [] } : St)) 0 (fun y => o1 = y) ?_ ?_ ?_
  · refine Wk.of [(0, some 0)] rfl rfl ?_ ?_
    · cbv
      all_goals exact ⟨⟨_, rfl, rfl⟩, ⟨_, rfl, rfl⟩, ⟨_, rfl, rfl⟩, ⟨_, rfl, rfl⟩, ⟨_, rfl, rfl⟩, trivial⟩
    · cbv
      all_goals exact ⟨⟨_, rfl, _, rfl, rfl, rfl, trivial⟩, trivial⟩
  · rintro ⟨⟨k1, v2, v1⟩, hk1, hi1, h_1⟩ hq1
    have hm1 := (hq1.1 8 _ _ rfl)
    try dsimp only at hk1 hi1 h_1
    clear hq1
    cbv
    by_cases hc1_ : k1 < a0.length
    · have hb1 : lt v2 (llen (r_Booking a0)) = true := ltL_true_Booking hg ht hi1 hc1_
      have hs1 := stepL_Booking hg ht hi1 hc1_ hm1
      obtain ⟨z1, hz1⟩ := some_of_lt hc1_
      rw [drop_of_some hz1] at h_1
      rw [I_LoadOf_l1] at h_1
      obtain ⟨z1_Thing, ⟨z1_Trip_Leg, z1_Trip_Day⟩, z1_Weight⟩ := z1
      try rw [← hg] at h_1
      try rw [← ht] at h_1
      try dsimp only at h_1
      rw [hb1]
      cbv
      refine AStep.mk (nn_L hi1) ?_
      cbv
      refine AGet.mk _ (r_getL_Booking hg ht hi1 hz1) ?_
      cbv
      cases hb2 : (all [(eq z1_Trip_Leg a1_Leg), (eq z1_Trip_Day a1_Day)]) with
      | true =>
        rw [br_true hb2] at h_1
        cbv
        try rw [hg] at h_1
        try rw [ht] at h_1
        refine ⟨⟨(k1 + 1, (wrap .i64 (add v2 1)), (wrap .i64 (add v1 z1_Weight))), hc1_, hs1, h_1⟩, Wk.of [(0, some 0)] rfl rfl ?_ ?_, meas_L hc1_⟩
        · cbv
          all_goals exact ⟨⟨_, rfl, rfl⟩, ⟨_, rfl, rfl⟩, ⟨_, rfl, rfl⟩, ⟨_, rfl, rfl⟩, ⟨_, rfl, rfl⟩, trivial⟩
        · cbv
          all_goals exact ⟨⟨_, rfl, _, rfl, rfl, rfl, trivial⟩, trivial⟩
      | false =>
        rw [br_false hb2] at h_1
        cbv
        try rw [hg] at h_1
        try rw [ht] at h_1
        refine ⟨⟨(k1 + 1, (wrap .i64 (add v2 1)), v1), hc1_, hs1, h_1⟩, Wk.of [(0, some 0)] rfl rfl ?_ ?_, meas_L hc1_⟩
        · cbv
          all_goals exact ⟨⟨_, rfl, rfl⟩, ⟨_, rfl, rfl⟩, ⟨_, rfl, rfl⟩, ⟨_, rfl, rfl⟩, ⟨_, rfl, rfl⟩, trivial⟩
        · cbv
          all_goals exact ⟨⟨_, rfl, _, rfl, rfl, rfl, trivial⟩, trivial⟩
    · have hb1 : lt v2 (llen (r_Booking a0)) = false := ltL_false_Booking hg ht hi1 hc1_
      rw [List.drop_of_length_le (Nat.le_of_not_lt hc1_)] at h_1
      rw [I_LoadOf_l1] at h_1
      try rw [← hg] at h_1
      try rw [← ht] at h_1
      try dsimp only at h_1
      rw [hb1]
      cbv
      refine ⟨v1, Wk.of [] rfl rfl ?_ ?_, h_1.symm⟩
      · cbv
        all_goals exact ⟨⟨_, rfl, rfl⟩, trivial⟩
      · cbv
        all_goals exact trivial
  · rintro y1 hy1
    replace hy1 := hy1.symm
    subst hy1
    try dsimp only [lr, lrL, lrp, lrpL] at h
    cbv
    subst h
    exact ARet.mk trivial hX.symm
end Go.Vs
namespace Go.Vs
set_option maxRecDepth 100000
def ir94 : J :=
  .seq (.reg none [⟨(some 3), none, .box (.t 1)⟩,
     ⟨(some 4), none, .mv (.k (V.b false))⟩] [0, 3])
  (.seq (.seq (.reg none [⟨(some 7), none, .mv (.t 0)⟩,
      ⟨(some 8), none, .len false (.t 7)⟩,
      ⟨(some 9), none, .mv (.k (V.i 0))⟩] [3, 7, 8, 9])
   (.bl 0 (.seq (.reg none [⟨(some 10), none, .bin .lss .i (.t 9) (.t 8)⟩] [3, 7, 8, 9, 10])
    (.seq (.cond (.t 10)
      (.skip)
      (.exit 0))
    (.seq (.block 1 (.seq (.reg none [⟨(some 11), none, .ia 2 (.t 7) (.t 9)⟩,
         ⟨(some 12), none, .ld true 2 (.t 11)⟩,
         ⟨(some 6), none, .alloc [.r (.v (.int .i64 0)), .r (.v (.int .i64 0))]⟩,
         ⟨none, none, .st 2 (.t 6) (.t 12)⟩] [3, 6, 7, 8, 9])
      (.seq (.reg none [⟨(some 13), none, .ld true 2 (.t 6)⟩,
         ⟨(some 14), none, .ld true 2 (.t 3)⟩,
         ⟨(some 15), none, .eqs false [.i, .i] (.t 13) (.t 14)⟩] [3, 7, 8, 9, 15])
      (.cond (.t 15)
       (.seq (.reg none [⟨(some 4), none, .mv (.k (V.b true))⟩] [4])
        (.ret))
       (.skip)))))
    (.reg none [⟨(some 16), none, .bin .add .i (.t 9) (.k (V.i 1))⟩,
      ⟨(some 9), none, .mv (.t 16)⟩] [3, 7, 8, 9]))))))
  (.seq (.reg none [⟨(some 4), none, .mv (.k (V.b false))⟩] [4])
  (.ret)))
def rv94 : List RV := [.t 4]
open Go.Proofs Go.IntWalk
set_option linter.unusedVariables false
set_option maxRecDepth 100000
set_option maxHeartbeats 4000000
def I_hasTrip_l1 (g : G) (t : TE) (a1 : Trip) : List Trip → LR Bool Unit
  | [] =>
    (LR.out ())
  | z1 :: ls1 =>
    br (g.all [(g.eq z1.Leg a1.Leg), (g.eq z1.Day a1.Day)])
    (
     (LR.ret true))
    (
     I_hasTrip_l1 g t a1 ls1)
def I_hasTrip (g : G) (t : TE) (a0 : List Trip) (a1 : Trip) : Bool :=
  lP (I_hasTrip_l1 g t a1 a0) fun o1 => lrp o1 fun y1 =>
  false
theorem fit94 : codeFit Try.prog Try.f94.ntmps (Try.f94.body.getD .skip) ir94 = true := by kernel_rfl
theorem c_I_hasTrip {g : G} {t : TE} {a0 : List Trip} {a1 : Trip} {r : Bool} (hg : g = G.real) (ht : t = TE.real) (h : I_hasTrip g t a0 a1 = r) : Fn Try.prog 94 [.c (.s 2 (t.r_Trip a0)), .g (Trip.rs t a1)] (.c (.r (.v (.bool r)))) := by
  obtain ⟨X, hX⟩ := hide (.c (.r (.v (.bool r))) : X)
  rw [← hX]
  refine fn_of (rvs := rv94) (j := ir94) Try.func94 rfl fit94 (Nat.le_of_ble_eq_true rfl) (by kernel_rfl) prog_mixed ?_
  intro g2 F hg2 hF
  obtain rfl : g2 = g := hg2.unique.trans hg.symm
  clear hg2
  obtain ⟨wrap, lt, le, eq, quo, rem, band, bor, bxor, shl, shr, nat, int, add, sub, mul, cat, seq, slt, sub3, byte, llen, nadd, nsub, dlen, dapp, dset, drep, rd, rda, up, rsub, dsub, all, sle, slen, hasI, putI, hasS, putS, imin, imax, fzc, bstr⟩ := g2
  obtain ⟨r_Leg, d_Leg, r_I64, d_I64, r_Booking, d_Booking, r_Trip, d_Trip, r_S, d_S, r_LI64, d_LI64, r_U8, d_U8, r_Fd⟩ := t
  obtain ⟨a1_Leg, a1_Day⟩ := a1
  unfold I_hasTrip at h
  try dsimp only at h
  cbv
  obtain ⟨o1, ho1, h⟩ := of_lP h
  try dsimp only at h
  try rw [hg] at ho1
  try rw [ht] at ho1
  refine ABL.mk { p : Nat × Int // p.1 ≤ a0.length ∧ p.2 = ((p.1 : Nat) : Int) ∧ I_hasTrip_l1 G.real TE.real (Trip.mk a1_Leg a1_Day) (List.drop p.1 a0) = o1 } (fun ⟨⟨k1, v1⟩, _⟩ => ({ sl := [(3, .c (.p 0 2 0 0)), (7, .c (.r (.s 2 (r_Trip a0)))), (8, .c (.r (.v (.int .i64 (llen (r_Trip a0)))))), (9, .c (.r (.v (.int .i64 v1))))], tab := [(0, some (.foc 2 [] [.r (.v (.int .i64 a1_Leg)), .r (.v (.int .i64 a1_Day))] []))] } : St)) 1 (fun p => a0.length - p.1.1) ⟨(0, 0), Nat.zero_le _, rfl, ho1⟩ (Unit) (fun _ => ({ sl := [], tab := [] } : St)) 0 (fun y => o1 = LR.out y) ?_ ?_ ?_
  · refine Wk.of [(0, some 0)] rfl rfl ?_ ?_
    · cbv
      all_goals exact ⟨⟨_, rfl, rfl⟩, ⟨_, rfl, rfl⟩, ⟨_, rfl, rfl⟩, ⟨_, rfl, rfl⟩, trivial⟩
    · cbv
      all_goals exact ⟨⟨_, rfl, _, rfl, rfl, rfl, trivial⟩, trivial⟩
  · rintro ⟨⟨k1, v1⟩, hk1, hi1, h_1⟩ hq1
    have hm1 := (hq1.1 7 _ _ rfl)
    try dsimp only at hk1 hi1 h_1
    clear hq1
    cbv
    by_cases hc1_ : k1 < a0.length
    · have hb1 : lt v1 (llen (r_Trip a0)) = true := ltL_true_Trip hg ht hi1 hc1_
      have hs1 := stepL_Trip hg ht hi1 hc1_ hm1
      obtain ⟨z1, hz1⟩ := some_of_lt hc1_
      rw [drop_of_some hz1] at h_1
      rw [I_hasTrip_l1] at h_1
      obtain ⟨z1_Leg, z1_Day⟩ := z1
      try rw [← hg] at h_1
      try rw [← ht] at h_1
      try dsimp only at h_1
      rw [hb1]
      cbv
      refine AStep.mk (nn_L hi1) ?_
      cbv
      refine AGet.mk _ (r_getL_Trip hg ht hi1 hz1) ?_
      cbv
      cases hb2 : (all [(eq z1_Leg a1_Leg), (eq z1_Day a1_Day)]) with
      | true =>
        rw [br_true hb2] at h_1
        cbv
        subst h_1
        try dsimp only [lr, lrL, lrp, lrpL] at h
        subst h
        exact ARet.mk trivial hX.symm
      | false =>
        rw [br_false hb2] at h_1
        cbv
        try rw [hg] at h_1
        try rw [ht] at h_1
        refine ⟨⟨(k1 + 1, (wrap .i64 (add v1 1))), hc1_, hs1, h_1⟩, Wk.of [(0, some 0)] rfl rfl ?_ ?_, meas_L hc1_⟩
        · cbv
          all_goals exact ⟨⟨_, rfl, rfl⟩, ⟨_, rfl, rfl⟩, ⟨_, rfl, rfl⟩, ⟨_, rfl, rfl⟩, trivial⟩
        · cbv
          all_goals exact ⟨⟨_, rfl, _, rfl, rfl, rfl, trivial⟩, trivial⟩
    · have hb1 : lt v1 (llen (r_Trip a0)) = false := ltL_false_Trip hg ht hi1 hc1_
      rw [List.drop_of_length_le (Nat.le_of_not_lt hc1_)] at h_1
      rw [I_hasTrip_l1] at h_1
      try rw [← hg] at h_1
      try rw [← ht] at h_1
      try dsimp only at h_1
      rw [hb1]
      cbv
      refine ⟨(), Wk.of [] rfl rfl ?_ ?_, h_1.symm⟩
      · cbv
        all_goals exact trivial
      · cbv
        all_goals exact trivial
  · rintro _ hy1
    replace hy1 := hy1.symm
    subst hy1
    try dsimp only [lr, lrL, lrp, lrpL] at h
    cbv
    subst h
    exact ARet.mk trivial hX.symm
end Go.Vs
namespace Go.Vs
set_option maxRecDepth 100000
def ir92 : J :=
  .seq (.reg none [⟨(some 8), none, .alloc [.r (.v (.int .i64 0)), .r (.v (.int .i64 0))]⟩,
     ⟨(some 9), none, .mv (.k (V.b false))⟩] [0, 1, 2, 3, 4, 5, 8])
  (.seq (.seq (.reg none [⟨(some 10), none, .mv (.k (V.i 0))⟩] [0, 1, 2, 3, 4, 5, 8, 10])
   (.bl 0 (.seq (.seq (.reg none [⟨(some 12), none, .mv (.t 10)⟩,
        ⟨(some 13), none, .bin .leq .i (.t 12) (.k (V.i 60))⟩] [0, 1, 2, 3, 4, 5, 8, 10, 13])
     (.cond (.t 13)
      (.skip)
      (.exit 0)))
    (.seq (.block 1 (.seq (.reg none [⟨(some 16), none, .mv (.t 0)⟩,
         ⟨(some 17), none, .mv (.t 10)⟩,
         ⟨(some 18), none, .bld [.r (.v (.int .i64 0)), .r (.v (.int .i64 0))] [(0, 1, (.t 16)), (1, 1, (.t 17))]⟩,
         ⟨(some 11), none, .alloc [.r (.v (.int .i64 0)), .r (.v (.int .i64 0))]⟩,
         ⟨none, none, .st 2 (.t 11) (.t 18)⟩] [0, 1, 2, 3, 4, 5, 8, 10, 11])
      (.seq (.reg (some [[], [], [], [0, 1, 2], [0, 1, 2, 3], [0, 1, 2, 3, 4], [0, 1, 2, 3, 4], [0, 1, 2, 3, 4, 5, 6], [0, 1, 2, 3, 4], [0, 1, 2, 3, 4, 5, 6, 7, 8], [0, 1, 2, 3, 4, 5, 6, 7, 8, 9], [0, 1, 2, 3, 4, 5, 6, 7, 8, 9, 10], [0, 1, 2, 3, 4, 5, 6, 7, 8, 9, 10, 11], [0, 1, 2, 3, 4, 5, 6, 7, 8, 9, 10, 11], [0, 1, 2, 3, 4, 5, 6, 7, 8, 9, 10, 11, 12, 13], [0, 1, 2, 3, 4, 5, 6, 7, 8, 9, 10, 11, 12, 13, 14], [0, 1, 2, 3, 4, 5, 6, 7, 8, 9, 10, 11, 12, 13, 14, 15], [0, 1, 2, 3, 4, 5, 6, 7, 8, 9, 10, 11, 12, 13, 14, 15, 16], [0, 1, 2, 3, 4, 5, 6, 7, 8, 9, 10, 11, 12, 13, 14, 15, 16, 17], [0, 1, 2, 3, 4, 5, 6, 7, 8, 9, 10, 11, 12, 13, 14, 15, 16, 17, 18], [0, 1, 2, 3, 4, 5, 6, 7, 8, 9, 10, 11, 12, 13, 14, 15, 16, 17], [0, 1, 2, 3, 4, 5, 6, 7, 8, 9, 10, 11, 12, 13, 14, 15, 16, 17, 18, 19, 20], [0, 1, 2, 3, 4, 5, 6, 7, 8, 9, 10, 11, 12, 13, 14, 15, 16, 17, 18, 19, 20, 21], [0, 1, 2, 3, 4, 5, 6, 7, 8, 9, 10, 11, 12, 13, 14, 15, 16, 17, 18, 19, 20, 21, 22], [0, 1, 2, 3, 4, 5, 6, 7, 8, 9, 10, 11, 12, 13, 14, 15, 16, 17], [0, 1, 2, 3, 4, 5, 6, 7, 8, 9, 10, 11, 12, 13, 14, 15, 16, 17], [0, 1, 2, 3, 4, 5, 6, 7, 8, 9, 10, 11, 12, 13, 14, 15, 16, 17, 24, 25], [0, 1, 2, 3, 4, 5, 6, 7, 8, 9, 10, 11, 12, 13, 14, 15, 16, 17, 18, 19, 20, 21, 22, 23, 24, 25, 26], [0, 1, 2, 3, 4, 5, 6, 7, 8, 9, 10, 11, 12, 13, 14, 15, 16, 17], [0, 1, 2, 3, 4, 5, 6, 7, 8, 9, 10, 11, 12, 13, 14, 15, 16, 17, 18, 19, 20, 21, 22, 23, 24, 25, 26, 27, 28], [0, 1, 2, 3, 4, 5, 6, 7, 8, 9, 10, 11, 12, 13, 14, 15, 16, 17, 18, 19, 20, 21, 22, 23, 24, 25, 26, 27, 28, 29]]) [⟨(some 19), none, .ld true 3 (.t 2)⟩,
         ⟨(some 20), none, .mv (.t 0)⟩,
         ⟨(some 21), none, .mv (.t 10)⟩,
         ⟨(some 22), none, .call 93 true [(.t 19), (.t 20), (.t 21)]⟩,
         ⟨(some 23), none, .mv (.t 22)⟩,
         ⟨(some 24), (some (23, true)), .ld true 3 (.t 2)⟩,
         ⟨(some 25), (some (23, true)), .ld true 2 (.t 11)⟩,
         ⟨(some 26), (some (23, true)), .call 74 true [(.t 24), (.t 25)]⟩,
         ⟨(some 27), (some (23, true)), .mv (.t 1)⟩,
         ⟨(some 28), (some (23, true)), .bin .geq .i (.t 26) (.t 27)⟩,
         ⟨(some 29), none, .pick (.t 23) (.t 28) (.k (V.b false))⟩,
         ⟨(some 30), none, .mv (.t 29)⟩,
         ⟨(some 31), (some (30, true)), .ld false 1 (.t 3)⟩,
         ⟨(some 32), (some (30, true)), .ld true 2 (.t 11)⟩,
         ⟨(some 33), (some (30, true)), .call 94 true [(.t 31), (.t 32)]⟩,
         ⟨(some 34), (some (30, true)), .not (.t 33)⟩,
         ⟨(some 35), none, .pick (.t 30) (.t 34) (.k (V.b false))⟩,
         ⟨(some 36), none, .mv (.t 35)⟩,
         ⟨(some 37), (some (36, true)), .fa 0 (.t 2)⟩,
         ⟨(some 38), (some (36, true)), .ld false 1 (.t 37)⟩,
         ⟨(some 39), (some (36, true)), .mv (.t 0)⟩,
         ⟨(some 40), (some (36, true)), .ia 6 (.t 38) (.t 39)⟩,
         ⟨(some 41), (some (36, true)), .fa 5 (.t 40)⟩,
         ⟨(some 42), (some (36, true)), .ld false 1 (.t 41)⟩,
         ⟨(some 43), (some (36, true)), .ld false 1 (.t 4)⟩,
         ⟨(some 44), (some (36, true)), .ld true 2 (.t 11)⟩,
         ⟨(some 45), (some (36, true)), .call 90 true [(.t 43), (.t 44)]⟩,
         ⟨(some 46), (some (36, true)), .bin .sub .i (.t 42) (.t 45)⟩,
         ⟨(some 47), (some (36, true)), .ld false 1 (.t 5)⟩,
         ⟨(some 48), (some (36, true)), .bin .geq .i (.t 46) (.t 47)⟩,
         ⟨(some 49), none, .pick (.t 36) (.t 48) (.k (V.b false))⟩] [0, 1, 2, 3, 4, 5, 8, 10, 11, 49])
      (.cond (.t 49)
       (.seq (.reg none [⟨(some 50), none, .ld true 2 (.t 11)⟩,
           ⟨none, none, .st 2 (.t 8) (.t 50)⟩,
           ⟨(some 9), none, .mv (.k (V.b true))⟩] [8, 9])
        (.ret))
       (.skip)))))
    (.reg none [⟨(some 14), none, .mv (.t 10)⟩,
      ⟨(some 15), none, .bin .add .i (.t 14) (.k (V.i 1))⟩,
      ⟨(some 10), none, .mv (.t 15)⟩] [0, 1, 2, 3, 4, 5, 8, 10])))))
  (.seq (.reg none [⟨(some 51), none, .bld [.r (.v (.int .i64 0)), .r (.v (.int .i64 0))] []⟩,
     ⟨none, none, .st 2 (.t 8) (.t 51)⟩,
     ⟨(some 9), none, .mv (.k (V.b false))⟩] [8, 9])
  (.ret)))
def rv92 : List RV := [.c 8 true 2, .t 9]
open Go.Proofs Go.IntWalk
set_option linter.unusedVariables false
set_option maxRecDepth 100000
set_option maxHeartbeats 4000000
def I_freeOf_1_l1 (g : G) (t : TE) (a0 : Int) (a1 : Int) (a2 : Network) (a3 : List Trip) (a4 : List Booking) (a5 : Int) : Nat → Int → Option (LR (Trip × Bool) Unit)
  | 0, v1 =>
    some (LR.out ())
  | n1 + 1, v1 =>
    cl (I_runs g t a2 a0 v1) fun x1 =>
    br x1
    (
     cl (I_starts g t a2 (Trip.mk a0 v1)) fun x2 =>
     br (g.le a1 x2)
     (
      lP (I_hasTrip g t a3 (Trip.mk a0 v1)) fun x3 =>
      br x3
      (
       I_freeOf_1_l1 g t a0 a1 a2 a3 a4 a5 n1 (g.wrap .i64 (g.add v1 1)))
      (
       gd (((0 : Int) ≤ a0)) <|
       gt a2.Legs (g.nat a0) fun x4 =>
       lP (I_LoadOf g t a4 (Trip.mk a0 v1)) fun x5 =>
       br (g.le a5 (g.wrap .i64 (g.sub x4.Room x5)))
       (
        some (LR.ret (((Trip.mk a0 v1), true))))
       (
        I_freeOf_1_l1 g t a0 a1 a2 a3 a4 a5 n1 (g.wrap .i64 (g.add v1 1)))))
     (
      I_freeOf_1_l1 g t a0 a1 a2 a3 a4 a5 n1 (g.wrap .i64 (g.add v1 1))))
    (
     I_freeOf_1_l1 g t a0 a1 a2 a3 a4 a5 n1 (g.wrap .i64 (g.add v1 1)))
def I_freeOf_1 (g : G) (t : TE) (a0 : Int) (a1 : Int) (a2 : Network) (a3 : List Trip) (a4 : List Booking) (a5 : Int) : Option (Trip × Bool) :=
  cl (I_freeOf_1_l1 g t a0 a1 a2 a3 a4 a5 (cntLe 0 60) 0) fun o1 => lr o1 fun y1 =>
  some (((Trip.mk 0 0), false))
theorem fit92 : codeFit Try.prog Try.f92.ntmps (Try.f92.body.getD .skip) ir92 = true := by kernel_rfl
theorem c_I_freeOf_1 {g : G} {t : TE} {a0 : Int} {a1 : Int} {a2 : Network} {a3 : List Trip} {a4 : List Booking} {a5 : Int} {r : Trip × Bool} (hg : g = G.real) (ht : t = TE.real) (h : I_freeOf_1 g t a0 a1 a2 a3 a4 a5 = some r) : Fn Try.prog 92 [.c (.v (.int .i64 a0)), .c (.v (.int .i64 a1)), .q (Network.rs t a2), .q [.s 2 (t.r_Trip a3)], .q [.s 4 (t.r_Booking a4)], .q [.v (.int .i64 a5)]] (.u [.g (Trip.ds t r.1), .c (.r (.v (.bool r.2)))]) := by
  obtain ⟨X, hX⟩ := hide (.u [.g (Trip.ds t r.1), .c (.r (.v (.bool r.2)))] : X)
  rw [← hX]
  refine fn_of (rvs := rv92) (j := ir92) Try.func92 rfl fit92 (Nat.le_of_ble_eq_true rfl) (by kernel_rfl) prog_mixed ?_
  intro g2 F hg2 hF
  obtain rfl : g2 = g := hg2.unique.trans hg.symm
  clear hg2
  obtain ⟨wrap, lt, le, eq, quo, rem, band, bor, bxor, shl, shr, nat, int, add, sub, mul, cat, seq, slt, sub3, byte, llen, nadd, nsub, dlen, dapp, dset, drep, rd, rda, up, rsub, dsub, all, sle, slen, hasI, putI, hasS, putS, imin, imax, fzc, bstr⟩ := g2
  obtain ⟨r_Leg, d_Leg, r_I64, d_I64, r_Booking, d_Booking, r_Trip, d_Trip, r_S, d_S, r_LI64, d_LI64, r_U8, d_U8, r_Fd⟩ := t
  obtain ⟨a2_Legs, a2_Off, a2_Change⟩ := a2
  unfold I_freeOf_1 at h
  try dsimp only at h
  cbv
  obtain ⟨o1, ho1, h⟩ := of_cl h
  try dsimp only at h
  try rw [hg] at ho1
  try rw [ht] at ho1
  refine ABL.mk { p : Nat × Int // p.1 = cntLe p.2 60 ∧ 0 ≤ p.2 ∧ I_freeOf_1_l1 G.real TE.real a0 a1 (Network.mk a2_Legs a2_Off a2_Change) a3 a4 a5 p.1 p.2 = some o1 } (fun ⟨⟨n1, v1⟩, _⟩ => ({ sl := [(0, .c (.r (.v (.int .i64 a0)))), (1, .c (.r (.v (.int .i64 a1)))), (2, .q [(.s 6 (r_Leg a2_Legs)), (.s 1 (r_I64 a2_Off)), (.v (.int .i64 a2_Change))]), (3, .q [(.s 2 (r_Trip a3))]), (4, .q [(.s 4 (r_Booking a4))]), (5, .q [(.v (.int .i64 a5))]), (8, .c (.p 0 2 0 0)), (10, .c (.r (.v (.int .i64 v1))))], tab := [(0, some (.foc 2 [] [.r (.v (.int .i64 0)), .r (.v (.int .i64 0))] []))] } : St)) 1 (fun p => p.1.1) ⟨(cntLe 0 60, 0), rfl, Int.le_refl _, ho1⟩ (Unit) (fun _ => ({ sl := [(8, .c (.p 0 2 0 0))], tab := [(0, some (.foc 2 [] [.r (.v (.int .i64 0)), .r (.v (.int .i64 0))] []))] } : St)) 1 (fun y => o1 = LR.out y) ?_ ?_ ?_
  · refine Wk.of [(0, some 0)] rfl rfl ?_ ?_
    · cbv
      all_goals exact ⟨⟨_, rfl, rfl⟩, ⟨_, rfl, rfl⟩, ⟨_, rfl, rfl⟩, ⟨_, rfl, rfl⟩, trivial⟩
    · cbv
      all_goals exact ⟨⟨_, rfl, _, rfl, rfl, rfl, trivial⟩, trivial⟩
  · rintro ⟨⟨n1, v1⟩, hn1, hi1, h_1⟩ hq1
    try dsimp only at hn1 hi1 h_1
    clear hq1
    cbv
    rcases n1 with _ | n1
    · have hb1 : le v1 60 = false := leC_false hg hn1
      rw [I_freeOf_1_l1] at h_1
      try rw [← hg] at h_1
      try rw [← ht] at h_1
      try dsimp only at h_1
      rw [hb1]
      cbv
      refine ⟨(), Wk.of [(0, some 0)] rfl rfl ?_ ?_, (Option.some.inj h_1).symm⟩
      · cbv
        all_goals exact ⟨⟨_, rfl, rfl⟩, trivial⟩
      · cbv
        all_goals exact ⟨⟨_, rfl, _, rfl, rfl, rfl, trivial⟩, trivial⟩
    · have hb1 : le v1 60 = true := leC_true hg hn1
      have hl1 := leC_le hn1
      have hs1 := stepleC hg hn1 hi1 (by decide) (by decide)
      rw [I_freeOf_1_l1] at h_1
      try rw [← hg] at h_1
      try rw [← ht] at h_1
      try dsimp only at h_1
      rw [hb1]
      cbv
      obtain ⟨x1, hx1, h_1⟩ := of_cl h_1
      try dsimp only at h_1
      refine ACall.mk _ _ rfl (hF _ _ _ (c_I_runs hg ht hx1)) (.inl rfl) (Nat.le_of_ble_eq_true rfl) ?_
      cbv
      cases hb2 : x1 with
      | true =>
        rw [br_true hb2] at h_1
        cbv
        try (rw [hb2]; cbv)
        try (rw [hb2]; cbv)
        obtain ⟨x2, hx2, h_1⟩ := of_cl h_1
        try dsimp only at h_1
        refine ACall.mk _ _ rfl (hF _ _ _ (c_I_starts hg ht hx2)) (.inl rfl) (Nat.le_of_ble_eq_true rfl) ?_
        cbv
        try (rw [hb2]; cbv)
        try (rw [hb2]; cbv)
        try (rw [hb2]; cbv)
        cases hb3 : (le a1 x2) with
        | true =>
          rw [br_true hb3] at h_1
          cbv
          try (rw [hb3]; cbv)
          try (rw [hb3]; cbv)
          obtain ⟨x3, hx3, h_1⟩ := of_lP h_1
          try dsimp only at h_1
          refine ACall.mk _ _ rfl (hF _ _ _ (c_I_hasTrip hg ht hx3)) (.inl rfl) (Nat.le_of_ble_eq_true rfl) ?_
          cbv
          try (rw [hb3]; cbv)
          try (rw [hb3]; cbv)
          cases hb4 : x3 with
          | true =>
            rw [br_true hb4] at h_1
            cbv
            try (rw [hb4]; cbv)
            try (rw [hb4]; cbv)
            try (rw [hb4]; cbv)
            try (rw [hb4]; cbv)
            try (rw [hb4]; cbv)
            try (rw [hb4]; cbv)
            try (rw [hb4]; cbv)
            try (rw [hb4]; cbv)
            try (rw [hb4]; cbv)
            try (rw [hb4]; cbv)
            try (rw [hb4]; cbv)
            try (rw [hb4]; cbv)
            try rw [hg] at h_1
            try rw [ht] at h_1
            refine ⟨⟨(n1, (wrap .i64 (add v1 1))), hs1.1, hs1.2, h_1⟩, Wk.of [(0, some 0)] rfl rfl ?_ ?_, Nat.lt_succ_self _⟩
            · cbv
              all_goals exact ⟨⟨_, rfl, rfl⟩, ⟨_, rfl, rfl⟩, ⟨_, rfl, rfl⟩, ⟨_, rfl, rfl⟩, trivial⟩
            · cbv
              all_goals exact ⟨⟨_, rfl, _, rfl, rfl, rfl, trivial⟩, trivial⟩
          | false =>
            rw [br_false hb4] at h_1
            cbv
            try (rw [hb4]; cbv)
            try (rw [hb4]; cbv)
            try (rw [hb4]; cbv)
            obtain ⟨hc1, h_1⟩ := of_gd h_1
            refine AStep.mk hc1 ?_
            cbv
            obtain ⟨x4, hx4, h_1⟩ := of_gt h_1
            obtain ⟨x4_From, x4_To, x4_Start, x4_Takes, x4_Days, x4_Room⟩ := x4
            try dsimp only at h_1
            refine AGet.mk _ (r_get_Leg hg ht hx4) ?_
            cbv
            try (rw [hb4]; cbv)
            try (rw [hb4]; cbv)
            try (rw [hb4]; cbv)
            try (rw [hb4]; cbv)
            try (rw [hb4]; cbv)
            obtain ⟨x5, hx5, h_1⟩ := of_lP h_1
            try dsimp only at h_1
            refine ACall.mk _ _ rfl (hF _ _ _ (c_I_LoadOf hg ht hx5)) (.inl rfl) (Nat.le_of_ble_eq_true rfl) ?_
            cbv
            try (rw [hb4]; cbv)
            try (rw [hb4]; cbv)
            try (rw [hb4]; cbv)
            try (rw [hb4]; cbv)
            cases hb5 : (le a5 (wrap .i64 (sub x4_Room x5))) with
            | true =>
              rw [br_true hb5] at h_1
              cbv
              obtain rfl := Option.some.inj h_1
              try dsimp only [lr, lrL, lrp, lrpL] at h
              obtain rfl := Option.some.inj h
              exact ARet.mk trivial hX.symm
            | false =>
              rw [br_false hb5] at h_1
              cbv
              try rw [hg] at h_1
              try rw [ht] at h_1
              refine ⟨⟨(n1, (wrap .i64 (add v1 1))), hs1.1, hs1.2, h_1⟩, Wk.of [(0, some 0)] rfl rfl ?_ ?_, Nat.lt_succ_self _⟩
              · cbv
                all_goals exact ⟨⟨_, rfl, rfl⟩, ⟨_, rfl, rfl⟩, ⟨_, rfl, rfl⟩, ⟨_, rfl, rfl⟩, trivial⟩
              · cbv
                all_goals exact ⟨⟨_, rfl, _, rfl, rfl, rfl, trivial⟩, trivial⟩
        | false =>
          rw [br_false hb3] at h_1
          cbv
          try (rw [hb3]; cbv)
          try (rw [hb3]; cbv)
          try (rw [hb3]; cbv)
          try (rw [hb3]; cbv)
          try rw [hg] at h_1
          try rw [ht] at h_1
          refine ⟨⟨(n1, (wrap .i64 (add v1 1))), hs1.1, hs1.2, h_1⟩, Wk.of [(0, some 0)] rfl rfl ?_ ?_, Nat.lt_succ_self _⟩
          · cbv
            all_goals exact ⟨⟨_, rfl, rfl⟩, ⟨_, rfl, rfl⟩, ⟨_, rfl, rfl⟩, ⟨_, rfl, rfl⟩, trivial⟩
          · cbv
            all_goals exact ⟨⟨_, rfl, _, rfl, rfl, rfl, trivial⟩, trivial⟩
      | false =>
        rw [br_false hb2] at h_1
        cbv
        try (rw [hb2]; cbv)
        try (rw [hb2]; cbv)
        try (rw [hb2]; cbv)
        try (rw [hb2]; cbv)
        try (rw [hb2]; cbv)
        try rw [hg] at h_1
        try rw [ht] at h_1
        refine ⟨⟨(n1, (wrap .i64 (add v1 1))), hs1.1, hs1.2, h_1⟩, Wk.of [(0, some 0)] rfl rfl ?_ ?_, Nat.lt_succ_self _⟩
        · cbv
          all_goals exact ⟨⟨_, rfl, rfl⟩, ⟨_, rfl, rfl⟩, ⟨_, rfl, rfl⟩, ⟨_, rfl, rfl⟩, trivial⟩
        · cbv
          all_goals exact ⟨⟨_, rfl, _, rfl, rfl, rfl, trivial⟩, trivial⟩
  · rintro _ hy1
    replace hy1 := hy1.symm
    subst hy1
    try dsimp only [lr, lrL, lrp, lrpL] at h
    cbv
    obtain rfl := Option.some.inj h
    exact ARet.mk trivial hX.symm
end Go.Vs
namespace Go.Vs
set_option maxRecDepth 100000
def ir117 : J :=
  .seq (.reg none [⟨(some 3), none, .box (.t 0)⟩,
     ⟨(some 6), none, .alloc [.r (.v (.int .i64 0)), .r (.v (.int .i64 0))]⟩,
     ⟨(some 7), none, .mv (.k (V.b false))⟩] [1, 2, 3, 6])
  (.seq (.seq (.reg none [⟨(some 8), none, .mv (.k (V.i 0))⟩] [1, 2, 3, 6, 8])
   (.bl 0 (.seq (.seq (.reg none [⟨(some 10), none, .mv (.t 8)⟩,
        ⟨(some 11), none, .bin .leq .i (.t 10) (.k (V.i 60))⟩] [1, 2, 3, 6, 8, 11])
     (.cond (.t 11)
      (.skip)
      (.exit 0)))
    (.seq (.block 1 (.seq (.reg none [⟨(some 14), none, .mv (.t 1)⟩,
         ⟨(some 15), none, .mv (.t 8)⟩,
         ⟨(some 16), none, .bld [.r (.v (.int .i64 0)), .r (.v (.int .i64 0))] [(0, 1, (.t 14)), (1, 1, (.t 15))]⟩,
         ⟨(some 9), none, .alloc [.r (.v (.int .i64 0)), .r (.v (.int .i64 0))]⟩,
         ⟨none, none, .st 2 (.t 9) (.t 16)⟩] [1, 2, 3, 6, 8, 9])
      (.seq (.reg none [⟨(some 17), none, .ld true 3 (.t 3)⟩,
         ⟨(some 18), none, .mv (.t 1)⟩,
         ⟨(some 19), none, .mv (.t 8)⟩,
         ⟨(some 20), none, .call 93 true [(.t 17), (.t 18), (.t 19)]⟩,
         ⟨(some 21), none, .mv (.t 20)⟩,
         ⟨(some 22), (some (21, true)), .ld true 3 (.t 3)⟩,
         ⟨(some 23), (some (21, true)), .ld true 2 (.t 9)⟩,
         ⟨(some 24), (some (21, true)), .call 74 true [(.t 22), (.t 23)]⟩,
         ⟨(some 25), (some (21, true)), .mv (.t 2)⟩,
         ⟨(some 26), (some (21, true)), .bin .geq .i (.t 24) (.t 25)⟩,
         ⟨(some 27), none, .pick (.t 21) (.t 26) (.k (V.b false))⟩] [1, 2, 3, 6, 8, 9, 27])
      (.cond (.t 27)
       (.seq (.reg none [⟨(some 28), none, .ld true 2 (.t 9)⟩,
           ⟨none, none, .st 2 (.t 6) (.t 28)⟩,
           ⟨(some 7), none, .mv (.k (V.b true))⟩] [6, 7])
        (.ret))
       (.skip)))))
    (.reg none [⟨(some 12), none, .mv (.t 8)⟩,
      ⟨(some 13), none, .bin .add .i (.t 12) (.k (V.i 1))⟩,
      ⟨(some 8), none, .mv (.t 13)⟩] [1, 2, 3, 6, 8])))))
  (.seq (.reg none [⟨(some 29), none, .bld [.r (.v (.int .i64 0)), .r (.v (.int .i64 0))] []⟩,
     ⟨none, none, .st 2 (.t 6) (.t 29)⟩,
     ⟨(some 7), none, .mv (.k (V.b false))⟩] [6, 7])
  (.ret)))
def rv117 : List RV := [.c 6 true 2, .t 7]
open Go.Proofs Go.IntWalk
set_option linter.unusedVariables false
set_option maxRecDepth 100000
set_option maxHeartbeats 4000000
def I_next_l1 (g : G) (t : TE) (a0 : Network) (a1 : Int) (a2 : Int) : Nat → Int → Option (LR (Trip × Bool) Unit)
  | 0, v1 =>
    some (LR.out ())
  | n1 + 1, v1 =>
    cl (I_runs g t a0 a1 v1) fun x1 =>
    br x1
    (
     cl (I_starts g t a0 (Trip.mk a1 v1)) fun x2 =>
     br (g.le a2 x2)
     (
      some (LR.ret (((Trip.mk a1 v1), true))))
     (
      I_next_l1 g t a0 a1 a2 n1 (g.wrap .i64 (g.add v1 1))))
    (
     I_next_l1 g t a0 a1 a2 n1 (g.wrap .i64 (g.add v1 1)))
def I_next (g : G) (t : TE) (a0 : Network) (a1 : Int) (a2 : Int) : Option (Trip × Bool) :=
  cl (I_next_l1 g t a0 a1 a2 (cntLe 0 60) 0) fun o1 => lr o1 fun y1 =>
  some (((Trip.mk 0 0), false))
theorem fit117 : codeFit Try.prog Try.f117.ntmps (Try.f117.body.getD .skip) ir117 = true := by kernel_rfl
theorem c_I_next {g : G} {t : TE} {a0 : Network} {a1 : Int} {a2 : Int} {r : Trip × Bool} (hg : g = G.real) (ht : t = TE.real) (h : I_next g t a0 a1 a2 = some r) : Fn Try.prog 117 [.g (Network.rs t a0), .c (.v (.int .i64 a1)), .c (.v (.int .i64 a2))] (.u [.g (Trip.ds t r.1), .c (.r (.v (.bool r.2)))]) := by
  obtain ⟨X, hX⟩ := hide (.u [.g (Trip.ds t r.1), .c (.r (.v (.bool r.2)))] : X)
  rw [← hX]
  refine fn_of (rvs := rv117) (j := ir117) Try.func117 rfl fit117 (Nat.le_of_ble_eq_true rfl) (by kernel_rfl) prog_mixed ?_
  intro g2 F hg2 hF
  obtain rfl : g2 = g := hg2.unique.trans hg.symm
  clear hg2
  obtain ⟨wrap, lt, le, eq, quo, rem, band, bor, bxor, shl, shr, nat, int, add, sub, mul, cat, seq, slt, sub3, byte, llen, nadd, nsub, dlen, dapp, dset, drep, rd, rda, up, rsub, dsub, all, sle, slen, hasI, putI, hasS, putS, imin, imax, fzc, bstr⟩ := g2
  obtain ⟨r_Leg, d_Leg, r_I64, d_I64, r_Booking, d_Booking, r_Trip, d_Trip, r_S, d_S, r_LI64, d_LI64, r_U8, d_U8, r_Fd⟩ := t
  obtain ⟨a0_Legs, a0_Off, a0_Change⟩ := a0
  unfold I_next at h
  try dsimp only at h
  cbv
  obtain ⟨o1, ho1, h⟩ := of_cl h
  try dsimp only at h
  try rw [hg] at ho1
  try rw [ht] at ho1
  refine ABL.mk { p : Nat × Int // p.1 = cntLe p.2 60 ∧ 0 ≤ p.2 ∧ I_next_l1 G.real TE.real (Network.mk a0_Legs a0_Off a0_Change) a1 a2 p.1 p.2 = some o1 } (fun ⟨⟨n1, v1⟩, _⟩ => ({ sl := [(1, .c (.r (.v (.int .i64 a1)))), (2, .c (.r (.v (.int .i64 a2)))), (3, .c (.p 0 3 0 0)), (6, .c (.p 1 2 0 0)), (8, .c (.r (.v (.int .i64 v1))))], tab := [(0, some (.foc 3 [] [.r (.s 6 (r_Leg a0_Legs)), .r (.s 1 (r_I64 a0_Off)), .r (.v (.int .i64 a0_Change))] [])), (1, some (.foc 2 [] [.r (.v (.int .i64 0)), .r (.v (.int .i64 0))] []))] } : St)) 2 (fun p => p.1.1) ⟨(cntLe 0 60, 0), rfl, Int.le_refl _, ho1⟩ (Unit) (fun _ => ({ sl := [(6, .c (.p 0 2 0 0))], tab := [(0, some (.foc 2 [] [.r (.v (.int .i64 0)), .r (.v (.int .i64 0))] []))] } : St)) 1 (fun y => o1 = LR.out y) ?_ ?_ ?_
  · refine Wk.of [(0, some 0), (1, some 16)] rfl rfl ?_ ?_
    · cbv
      all_goals exact ⟨⟨_, rfl, rfl⟩, ⟨_, rfl, rfl⟩, ⟨_, rfl, rfl⟩, ⟨_, rfl, rfl⟩, ⟨_, rfl, rfl⟩, trivial⟩
    · cbv
      all_goals exact ⟨⟨_, rfl, _, rfl, rfl, rfl, rfl, trivial⟩, ⟨_, rfl, _, rfl, rfl, rfl, trivial⟩, trivial⟩
  · rintro ⟨⟨n1, v1⟩, hn1, hi1, h_1⟩ hq1
    try dsimp only at hn1 hi1 h_1
    clear hq1
    cbv
    rcases n1 with _ | n1
    · have hb1 : le v1 60 = false := leC_false hg hn1
      rw [I_next_l1] at h_1
      try rw [← hg] at h_1
      try rw [← ht] at h_1
      try dsimp only at h_1
      rw [hb1]
      cbv
      refine ⟨(), Wk.of [(0, some 1)] rfl rfl ?_ ?_, (Option.some.inj h_1).symm⟩
      · cbv
        all_goals exact ⟨⟨_, rfl, rfl⟩, trivial⟩
      · cbv
        all_goals exact ⟨⟨_, rfl, _, rfl, rfl, rfl, trivial⟩, trivial⟩
    · have hb1 : le v1 60 = true := leC_true hg hn1
      have hl1 := leC_le hn1
      have hs1 := stepleC hg hn1 hi1 (by decide) (by decide)
      rw [I_next_l1] at h_1
      try rw [← hg] at h_1
      try rw [← ht] at h_1
      try dsimp only at h_1
      rw [hb1]
      cbv
      obtain ⟨x1, hx1, h_1⟩ := of_cl h_1
      try dsimp only at h_1
      refine ACall.mk _ _ rfl (hF _ _ _ (c_I_runs hg ht hx1)) (.inl rfl) (Nat.le_of_ble_eq_true rfl) ?_
      cbv
      cases hb2 : x1 with
      | true =>
        rw [br_true hb2] at h_1
        cbv
        try (rw [hb2]; cbv)
        try (rw [hb2]; cbv)
        obtain ⟨x2, hx2, h_1⟩ := of_cl h_1
        try dsimp only at h_1
        refine ACall.mk _ _ rfl (hF _ _ _ (c_I_starts hg ht hx2)) (.inl rfl) (Nat.le_of_ble_eq_true rfl) ?_
        cbv
        try (rw [hb2]; cbv)
        try (rw [hb2]; cbv)
        try (rw [hb2]; cbv)
        cases hb3 : (le a2 x2) with
        | true =>
          rw [br_true hb3] at h_1
          cbv
          obtain rfl := Option.some.inj h_1
          try dsimp only [lr, lrL, lrp, lrpL] at h
          obtain rfl := Option.some.inj h
          exact ARet.mk trivial hX.symm
        | false =>
          rw [br_false hb3] at h_1
          cbv
          try rw [hg] at h_1
          try rw [ht] at h_1
          refine ⟨⟨(n1, (wrap .i64 (add v1 1))), hs1.1, hs1.2, h_1⟩, Wk.of [(0, some 0), (1, some 1)] rfl rfl ?_ ?_, Nat.lt_succ_self _⟩
          · cbv
            all_goals exact ⟨⟨_, rfl, rfl⟩, ⟨_, rfl, rfl⟩, ⟨_, rfl, rfl⟩, ⟨_, rfl, rfl⟩, ⟨_, rfl, rfl⟩, trivial⟩
          · cbv
            all_goals exact ⟨⟨_, rfl, _, rfl, rfl, rfl, rfl, trivial⟩, ⟨_, rfl, _, rfl, rfl, rfl, trivial⟩, trivial⟩
      | false =>
        rw [br_false hb2] at h_1
        cbv
        try (rw [hb2]; cbv)
        try (rw [hb2]; cbv)
        try (rw [hb2]; cbv)
        try (rw [hb2]; cbv)
        try (rw [hb2]; cbv)
        try rw [hg] at h_1
        try rw [ht] at h_1
        refine ⟨⟨(n1, (wrap .i64 (add v1 1))), hs1.1, hs1.2, h_1⟩, Wk.of [(0, some 0), (1, some 1)] rfl rfl ?_ ?_, Nat.lt_succ_self _⟩
        · cbv
          all_goals exact ⟨⟨_, rfl, rfl⟩, ⟨_, rfl, rfl⟩, ⟨_, rfl, rfl⟩, ⟨_, rfl, rfl⟩, ⟨_, rfl, rfl⟩, trivial⟩
        · cbv
          all_goals exact ⟨⟨_, rfl, _, rfl, rfl, rfl, rfl, trivial⟩, ⟨_, rfl, _, rfl, rfl, rfl, trivial⟩, trivial⟩
  · rintro _ hy1
    replace hy1 := hy1.symm
    subst hy1
    try dsimp only [lr, lrL, lrp, lrpL] at h
    cbv
    obtain rfl := Option.some.inj h
    exact ARet.mk trivial hX.symm
end Go.Vs
namespace Go.Vs
set_option maxRecDepth 100000
def ir116 : J :=
  .seq (.reg none [⟨(some 5), none, .alloc [.r (.v (.int .i64 0)), .r (.v (.int .i64 0))]⟩,
     ⟨(some 6), none, .mv (.k (V.b false))⟩] [0, 1, 2, 5])
  (.seq (.reg none [⟨(some 10), none, .ld true 3 (.t 2)⟩,
     ⟨(some 11), none, .mv (.t 0)⟩,
     ⟨(some 12), none, .mv (.t 1)⟩,
     ⟨(some 13), none, .call 117 true [(.t 10), (.t 11), (.t 12)]⟩,
     ⟨(some 9), none, .mv (.t 13)⟩,
     ⟨(some 14), none, .ext 0 (.t 9)⟩,
     ⟨(some 15), none, .ext 1 (.t 9)⟩,
     ⟨(some 7), none, .alloc [.r (.v (.int .i64 0)), .r (.v (.int .i64 0))]⟩,
     ⟨none, none, .st 2 (.t 7) (.t 14)⟩,
     ⟨(some 8), none, .mv (.t 15)⟩] [5, 7, 8])
  (.seq (.reg none [⟨(some 16), none, .ld true 2 (.t 7)⟩,
     ⟨(some 17), none, .mv (.t 8)⟩,
     ⟨none, none, .st 2 (.t 5) (.t 16)⟩,
     ⟨(some 6), none, .mv (.t 17)⟩] [5, 6])
  (.ret)))
def rv116 : List RV := [.c 5 true 2, .t 6]
open Go.Proofs Go.IntWalk
set_option linter.unusedVariables false
set_option maxRecDepth 100000
set_option maxHeartbeats 4000000
def I_nextOf_1 (g : G) (t : TE) (a0 : Int) (a1 : Int) (a2 : Network) : Option (Trip × Bool) :=
  cl (I_next g t a2 a0 a1) fun x1 =>
  some (((Trip.mk x1.1.Leg x1.1.Day), x1.2))
theorem fit116 : codeFit Try.prog Try.f116.ntmps (Try.f116.body.getD .skip) ir116 = true := by kernel_rfl
theorem c_I_nextOf_1 {g : G} {t : TE} {a0 : Int} {a1 : Int} {a2 : Network} {r : Trip × Bool} (hg : g = G.real) (ht : t = TE.real) (h : I_nextOf_1 g t a0 a1 a2 = some r) : Fn Try.prog 116 [.c (.v (.int .i64 a0)), .c (.v (.int .i64 a1)), .q (Network.rs t a2)] (.u [.g (Trip.ds t r.1), .c (.r (.v (.bool r.2)))]) := by
  obtain ⟨X, hX⟩ := hide (.u [.g (Trip.ds t r.1), .c (.r (.v (.bool r.2)))] : X)
  rw [← hX]
  refine fn_of (rvs := rv116) (j := ir116) Try.func116 rfl fit116 (Nat.le_of_ble_eq_true rfl) (by kernel_rfl) prog_mixed ?_
  intro g2 F hg2 hF
  obtain rfl : g2 = g := hg2.unique.trans hg.symm
  clear hg2
  obtain ⟨wrap, lt, le, eq, quo, rem, band, bor, bxor, shl, shr, nat, int, add, sub, mul, cat, seq, slt, sub3, byte, llen, nadd, nsub, dlen, dapp, dset, drep, rd, rda, up, rsub, dsub, all, sle, slen, hasI, putI, hasS, putS, imin, imax, fzc, bstr⟩ := g2
  obtain ⟨r_Leg, d_Leg, r_I64, d_I64, r_Booking, d_Booking, r_Trip, d_Trip, r_S, d_S, r_LI64, d_LI64, r_U8, d_U8, r_Fd⟩ := t
  obtain ⟨a2_Legs, a2_Off, a2_Change⟩ := a2
  unfold I_nextOf_1 at h
  try dsimp only at h
  cbv
  obtain ⟨x1, hx1, h⟩ := of_cl h
  obtain ⟨⟨x1_1_Leg, x1_1_Day⟩, x1_2⟩ := x1
  try dsimp only at h
  refine ACall.mk _ _ rfl (hF _ _ _ (c_I_next hg ht hx1)) (.inl rfl) (Nat.le_of_ble_eq_true rfl) ?_
  cbv
  obtain rfl := Option.some.inj h
  exact ARet.mk trivial hX.symm
end Go.Vs
namespace Go.Vs
open Go.Proofs Go.IntWalk
set_option linter.unusedVariables false
set_option maxRecDepth 100000
def callFd (g : G) (t : TE) (f : Fd) (x0 : Int) (x1 : Int) : Option (Trip × Bool) := match f with
  | .I_freeOf_1 a0 a1 a2 a3 => I_freeOf_1 g t x0 x1 a0 a1 a2 a3
  | .I_nextOf_1 a0 => I_nextOf_1 g t x0 x1 a0
theorem c_callFd {g : G} {t : TE} {f : Fd} {x0 : Int} {x1 : Int} {r : Trip × Bool} (hg : g = G.real) (ht : t = TE.real) (h : callFd g t f x0 x1 = some r) : ∃ (q : Nat) (bs : List (List R)), t.r_Fd f = .fn q bs ∧ (funcOK Try.prog q = true ∧ Fn Try.prog q ([.c (.v (.int .i64 x0)), .c (.v (.int .i64 x1))] ++ bs.map A.q) (.u [.g (Trip.ds t r.1), .c (.r (.v (.bool r.2)))])) := by
  cases f with
  | I_freeOf_1 a0 a1 a2 a3 => exact ⟨_, _, (fdc_I_freeOf_1 ht a0 a1 a2 a3).symm, by kernel_rfl, c_I_freeOf_1 hg ht h⟩
  | I_nextOf_1 a0 => exact ⟨_, _, (fdc_I_nextOf_1 ht a0).symm, by kernel_rfl, c_I_nextOf_1 hg ht h⟩
end Go.Vs
namespace Go.Vs
set_option maxRecDepth 100000
def ir53 : J :=
  .seq (.reg none [⟨(some 5), none, .box (.t 0)⟩,
     ⟨(some 10), none, .mv (.k (.c (.n 1)))⟩] [1, 2, 3, 4, 5])
  (.seq (.reg none [⟨(some 23), none, .ld true 3 (.t 5)⟩,
     ⟨(some 24), none, .call 72 true [(.t 23)]⟩,
     ⟨(some 11), none, .mv (.t 24)⟩] [1, 2, 3, 4, 5, 11])
  (.seq (.reg none [⟨(some 25), none, .mv (.t 11)⟩,
     ⟨(some 26), none, .mv (.t 2)⟩,
     ⟨(some 27), none, .call 71 true [(.t 25), (.t 26)]⟩,
     ⟨(some 12), none, .mv (.t 27)⟩] [1, 3, 4, 5, 11, 12])
  (.seq (.seq (.reg none [⟨(some 28), none, .mv (.t 12)⟩,
      ⟨(some 29), none, .bin .lss .i (.t 28) (.k (V.i 0))⟩,
      ⟨(some 30), none, .mv (.t 29)⟩,
      ⟨(some 31), (some (30, false)), .mv (.t 3)⟩,
      ⟨(some 32), (some (30, false)), .bin .gtr .i (.t 31) (.k (V.i 100000))⟩,
      ⟨(some 33), none, .pick (.t 30) (.k (V.b true)) (.t 32)⟩,
      ⟨(some 34), none, .mv (.t 33)⟩,
      ⟨(some 35), (some (34, false)), .mv (.t 4)⟩,
      ⟨(some 36), (some (34, false)), .bin .lss .i (.t 35) (.k (V.i 0))⟩,
      ⟨(some 37), none, .pick (.t 34) (.k (V.b true)) (.t 36)⟩] [1, 3, 4, 5, 11, 12, 37])
   (.cond (.t 37)
    (.seq (.reg none [⟨(some 10), none, .mv (.k (.c (.n 1)))⟩] [10])
     (.ret))
    (.skip)))
  (.seq (.reg none [⟨(some 38), none, .bsl 1 []⟩,
     ⟨(some 13), none, .mv (.t 38)⟩] [1, 3, 4, 5, 11, 12, 13])
  (.seq (.seq (.reg none [⟨(some 39), none, .mv (.t 11)⟩,
      ⟨(some 40), none, .len false (.t 39)⟩,
      ⟨(some 41), none, .mv (.k (V.i 0))⟩] [1, 3, 4, 5, 11, 12, 13, 40, 41])
   (.bl 0 (.seq (.reg none [⟨(some 42), none, .bin .lss .i (.t 41) (.t 40)⟩] [1, 3, 4, 5, 11, 12, 13, 40, 41, 42])
    (.seq (.cond (.t 42)
      (.skip)
      (.exit 0))
    (.seq (.block 1 (.reg none [⟨(some 43), none, .mv (.t 13)⟩,
        ⟨(some 44), none, .bsl 1 [(.k (V.i (-1)))]⟩,
        ⟨(some 45), none, .app 1 8 true (.t 43) (.t 44)⟩,
        ⟨(some 13), none, .mv (.t 45)⟩] [1, 3, 4, 5, 11, 12, 13, 40, 41]))
    (.reg none [⟨(some 46), none, .bin .add .i (.t 41) (.k (V.i 1))⟩,
      ⟨(some 41), none, .mv (.t 46)⟩] [1, 3, 4, 5, 11, 12, 13, 40, 41]))))))
  (.seq (.reg none [⟨(some 47), none, .mv (.t 13)⟩,
     ⟨(some 48), none, .mv (.t 12)⟩,
     ⟨(some 49), none, .mv (.t 3)⟩,
     ⟨(some 50), none, .mnx true (.t 49) (.k (V.i 0))⟩,
     ⟨(some 51), none, .ia 1 (.t 47) (.t 48)⟩,
     ⟨none, none, .st 1 (.t 51) (.t 50)⟩] [1, 4, 5, 11, 12, 13])
  (.seq (.seq (.reg none [⟨(some 14), none, .mv (.k (V.i 0))⟩] [1, 4, 5, 11, 12, 13, 14])
   (.bl 2 (.seq (.seq (.reg none [⟨(some 52), none, .mv (.t 14)⟩,
        ⟨(some 53), none, .mv (.t 4)⟩,
        ⟨(some 54), none, .bin .lss .i (.t 52) (.t 53)⟩] [1, 4, 5, 11, 12, 13, 14, 54])
     (.cond (.t 54)
      (.skip)
      (.exit 2)))
    (.seq (.block 3 (.seq (.reg none [⟨(some 57), none, .bsl 1 []⟩,
         ⟨(some 58), none, .mv (.t 13)⟩,
         ⟨(some 59), none, .app 1 8 false (.t 57) (.t 58)⟩,
         ⟨(some 15), none, .mv (.t 59)⟩] [1, 4, 5, 11, 12, 13, 14, 15])
      (.seq (.reg none [⟨(some 16), none, .mv (.k (V.b false))⟩] [1, 4, 5, 11, 12, 13, 14, 15, 16])
      (.seq (.seq (.reg none [⟨(some 60), none, .fa 0 (.t 5)⟩,
          ⟨(some 61), none, .ld false 1 (.t 60)⟩,
          ⟨(some 62), none, .len false (.t 61)⟩,
          ⟨(some 63), none, .mv (.k (V.i 0))⟩] [1, 4, 5, 11, 12, 13, 14, 15, 16, 61, 62, 63])
       (.bl 4 (.seq (.reg none [⟨(some 64), none, .bin .lss .i (.t 63) (.t 62)⟩] [1, 4, 5, 11, 12, 13, 14, 15, 16, 61, 62, 63, 64])
        (.seq (.cond (.t 64)
          (.skip)
          (.exit 4))
        (.seq (.block 5 (.seq (.reg none [⟨(some 65), none, .mv (.t 63)⟩,
             ⟨(some 66), none, .ia 6 (.t 61) (.t 63)⟩,
             ⟨(some 67), none, .ld true 6 (.t 66)⟩,
             ⟨(some 18), none, .alloc [.r (.v (.string .empty)), .r (.v (.string .empty)), .r (.v (.int .i64 0)), .r (.v (.int .i64 0)), .r (.v (.int .i64 0)), .r (.v (.int .i64 0))]⟩,
             ⟨(some 17), none, .mv (.t 65)⟩,
             ⟨none, none, .st 6 (.t 18) (.t 67)⟩] [1, 4, 5, 11, 12, 13, 14, 15, 16, 17, 18, 61, 62, 63])
          (.seq (.reg none [⟨(some 68), none, .mv (.t 11)⟩,
             ⟨(some 69), none, .fa 0 (.t 18)⟩,
             ⟨(some 70), none, .ld false 1 (.t 69)⟩,
             ⟨(some 71), none, .call 71 true [(.t 68), (.t 70)]⟩,
             ⟨(some 19), none, .mv (.t 71)⟩] [1, 4, 5, 11, 12, 13, 14, 15, 16, 17, 18, 19, 61, 62, 63])
          (.seq (.reg none [⟨(some 72), none, .mv (.t 11)⟩,
             ⟨(some 73), none, .fa 1 (.t 18)⟩,
             ⟨(some 74), none, .ld false 1 (.t 73)⟩,
             ⟨(some 75), none, .call 71 true [(.t 72), (.t 74)]⟩,
             ⟨(some 20), none, .mv (.t 75)⟩] [1, 4, 5, 11, 12, 13, 14, 15, 16, 17, 19, 20, 61, 62, 63])
          (.seq (.seq (.reg none [⟨(some 76), none, .mv (.t 13)⟩,
              ⟨(some 77), none, .mv (.t 19)⟩,
              ⟨(some 78), none, .ia 1 (.t 76) (.t 77)⟩,
              ⟨(some 79), none, .ld false 1 (.t 78)⟩,
              ⟨(some 80), none, .bin .lss .i (.t 79) (.k (V.i 0))⟩] [1, 4, 5, 11, 12, 13, 14, 15, 16, 17, 19, 20, 61, 62, 63, 80])
           (.cond (.t 80)
            (.exit 5)
            (.skip)))
          (.seq (.reg (some [[], [], [], [], [], [3, 4], [3, 4, 5], [], [], [7, 8], [2, 3, 4, 5, 6, 7, 8, 9], [0, 1, 2, 3, 4, 5, 6, 7, 8, 9, 10], [0, 1, 2, 3, 4, 5, 6, 7, 8, 9, 10, 11], [0, 1, 2, 3, 4, 5, 6, 7, 8, 9, 10, 11, 12], [0, 1, 2, 3, 4, 5, 6, 7, 8, 9, 10, 11, 12], [], [0, 1, 2, 3, 4, 5, 6, 7, 8, 9, 10, 11, 12, 13, 15], [0, 1, 2, 3, 4, 5, 6, 7, 8, 9, 10, 11, 12, 13, 14, 15, 16]]) [⟨(some 82), none, .mv (.t 1)⟩,
             ⟨(some 83), none, .mv (.t 17)⟩,
             ⟨(some 84), none, .ld true 3 (.t 5)⟩,
             ⟨(some 85), none, .mv (.t 13)⟩,
             ⟨(some 86), none, .mv (.t 19)⟩,
             ⟨(some 87), none, .ia 1 (.t 85) (.t 86)⟩,
             ⟨(some 88), none, .ld false 1 (.t 87)⟩,
             ⟨(some 89), none, .mv (.t 19)⟩,
             ⟨(some 90), none, .mv (.t 12)⟩,
             ⟨(some 91), none, .bin .eql .i (.t 89) (.t 90)⟩,
             ⟨(some 92), none, .call 91 true [(.t 84), (.t 88), (.t 91)]⟩,
             ⟨(some 93), none, .callv true (.t 82) [(.t 83), (.t 92)]⟩,
             ⟨(some 81), none, .mv (.t 93)⟩,
             ⟨(some 94), none, .ext 0 (.t 81)⟩,
             ⟨(some 95), none, .ext 1 (.t 81)⟩,
             ⟨(some 21), none, .alloc [.r (.v (.int .i64 0)), .r (.v (.int .i64 0))]⟩,
             ⟨none, none, .st 2 (.t 21) (.t 94)⟩,
             ⟨(some 22), none, .mv (.t 95)⟩] [1, 4, 5, 11, 12, 13, 14, 15, 16, 20, 21, 22, 61, 62, 63])
          (.seq (.reg (some [[], [0], [0, 1], [0, 1], [0, 1, 2, 3], [0, 1, 2, 3, 4], [0, 1, 2, 3, 4, 5], [0, 1, 2, 3, 4, 5, 6], [0, 1, 2, 3, 4, 5, 6, 7], [0, 1, 2, 3, 4, 5, 6, 7], [0, 1, 2, 3, 4, 5, 6, 7, 8, 9], [0, 1, 2, 3, 4, 5, 6, 7], [0, 1, 2, 3, 4, 5, 6, 7], [0, 1, 2, 3, 4, 5, 6, 7, 11, 12], [0, 1, 2, 3, 4, 5, 6, 7, 11, 12, 13], [0, 1, 2, 3, 4, 5, 6, 7, 8, 9, 10, 11, 12, 13, 14], [0, 1, 2, 3, 4, 5, 6, 7, 8, 9, 10, 11, 12, 13, 14, 15], [0, 1, 2, 3, 4, 5, 6, 7, 8, 9, 10, 11, 12, 13, 14, 15, 16]]) [⟨(some 96), none, .mv (.t 22)⟩,
             ⟨(some 97), none, .mv (.t 96)⟩,
             ⟨(some 98), (some (97, true)), .mv (.t 15)⟩,
             ⟨(some 99), (some (97, true)), .mv (.t 20)⟩,
             ⟨(some 100), (some (97, true)), .ia 1 (.t 98) (.t 99)⟩,
             ⟨(some 101), (some (97, true)), .ld false 1 (.t 100)⟩,
             ⟨(some 102), (some (97, true)), .bin .lss .i (.t 101) (.k (V.i 0))⟩,
             ⟨(some 103), (some (97, true)), .mv (.t 102)⟩,
             ⟨(some 104), (some (103, false)), .ld true 3 (.t 5)⟩,
             ⟨(some 105), (some (103, false)), .ld true 2 (.t 21)⟩,
             ⟨(some 106), (some (103, false)), .call 75 true [(.t 104), (.t 105)]⟩,
             ⟨(some 107), (some (103, false)), .mv (.t 15)⟩,
             ⟨(some 108), (some (103, false)), .mv (.t 20)⟩,
             ⟨(some 109), (some (103, false)), .ia 1 (.t 107) (.t 108)⟩,
             ⟨(some 110), (some (103, false)), .ld false 1 (.t 109)⟩,
             ⟨(some 111), (some (103, false)), .bin .lss .i (.t 106) (.t 110)⟩,
             ⟨(some 112), (some (97, true)), .pick (.t 103) (.k (V.b true)) (.t 111)⟩,
             ⟨(some 113), none, .pick (.t 97) (.t 112) (.k (V.b false))⟩] [1, 4, 5, 11, 12, 13, 14, 15, 16, 20, 21, 61, 62, 63, 113])
          (.cond (.t 113)
           (.seq (.reg none [⟨(some 114), none, .mv (.t 15)⟩,
               ⟨(some 115), none, .mv (.t 20)⟩,
               ⟨(some 116), none, .ld true 3 (.t 5)⟩,
               ⟨(some 117), none, .ld true 2 (.t 21)⟩,
               ⟨(some 118), none, .call 75 true [(.t 116), (.t 117)]⟩,
               ⟨(some 119), none, .ia 1 (.t 114) (.t 115)⟩,
               ⟨none, none, .st 1 (.t 119) (.t 118)⟩] [1, 4, 5, 11, 12, 13, 14, 15, 61, 62, 63])
            (.reg none [⟨(some 16), none, .mv (.k (V.b true))⟩] [1, 4, 5, 11, 12, 13, 14, 15, 16, 61, 62, 63]))
           (.skip)))))))))
        (.reg none [⟨(some 120), none, .bin .add .i (.t 63) (.k (V.i 1))⟩,
          ⟨(some 63), none, .mv (.t 120)⟩] [1, 4, 5, 11, 12, 13, 14, 15, 16, 61, 62, 63]))))))
      (.seq (.reg none [⟨(some 121), none, .mv (.t 15)⟩,
         ⟨(some 13), none, .mv (.t 121)⟩] [1, 4, 5, 11, 12, 13, 14, 16])
      (.seq (.reg none [⟨(some 122), none, .mv (.t 16)⟩,
         ⟨(some 123), none, .not (.t 122)⟩] [1, 4, 5, 11, 12, 13, 14, 123])
      (.cond (.t 123)
       (.exit 2)
       (.skip))))))))
    (.reg none [⟨(some 55), none, .mv (.t 14)⟩,
      ⟨(some 56), none, .bin .add .i (.t 55) (.k (V.i 1))⟩,
      ⟨(some 14), none, .mv (.t 56)⟩] [1, 4, 5, 11, 12, 13, 14])))))
  (.seq (.reg none [⟨(some 124), none, .mv (.t 13)⟩,
     ⟨(some 10), none, .mv (.t 124)⟩] [10])
  (.ret)))))))))
def rv53 : List RV := [.t 10]
open Go.Proofs Go.IntWalk
set_option linter.unusedVariables false
set_option maxRecDepth 100000
set_option maxHeartbeats 4000000
def I_arrivals_l3 (g : G) (t : TE) (a0 : Network) (a1 : Fd) (w2 : List Int) (x1 : List ByteArray) (x2 : Int) : List Leg → Int → List Int → Bool → Option ((List Int) × Bool)
  | [], v4, w3, v3 =>
    some (w3, v3)
  | z3 :: ls3, v4, w3, v3 =>
    lP (I_placeAt g t x1 z3.From) fun x4 =>
    lP (I_placeAt g t x1 z3.To) fun x5 =>
    gd (((0 : Int) ≤ x4 ∧ x4 < (((g.dlen (t.d_I64 w2)) : Nat) : Int))) <|
    gt w2 (g.nat x4) fun x6 =>
    br (g.lt x6 0)
    (
     I_arrivals_l3 g t a0 a1 w2 x1 x2 ls3 (g.wrap .i64 (g.add v4 1)) w3 v3)
    (
     gd (((0 : Int) ≤ x4 ∧ x4 < (((g.dlen (t.d_I64 w2)) : Nat) : Int))) <|
     lP (I_readyAt g t a0 x6 (g.eq x4 x2)) fun x7 =>
     cl (callFd g t a1 v4 x7) fun x8 =>
     br x8.2
     (
      gd (((0 : Int) ≤ x5 ∧ x5 < (((g.dlen (t.d_I64 w3)) : Nat) : Int))) <|
      gt w3 (g.nat x5) fun x9 =>
      br (g.lt x9 0)
      (
       cl (I_ends g t a0 (Trip.mk x8.1.Leg x8.1.Day)) fun x10 =>
       gd (((0 : Int) ≤ x5 ∧ x5 < (((g.dlen (t.d_I64 w3)) : Nat) : Int))) <|
       lP (List.set w3 (g.nat x5) x10) fun (l7 : List Int) =>
       I_arrivals_l3 g t a0 a1 w2 x1 x2 ls3 (g.wrap .i64 (g.add v4 1)) l7 true)
      (
       cl (I_ends g t a0 (Trip.mk x8.1.Leg x8.1.Day)) fun x11 =>
       gd (((0 : Int) ≤ x5 ∧ x5 < (((g.dlen (t.d_I64 w3)) : Nat) : Int))) <|
       br (g.lt x11 x9)
       (
        cl (I_ends g t a0 (Trip.mk x8.1.Leg x8.1.Day)) fun x12 =>
        gd (((0 : Int) ≤ x5 ∧ x5 < (((g.dlen (t.d_I64 w3)) : Nat) : Int))) <|
        lP (List.set w3 (g.nat x5) x12) fun (l8 : List Int) =>
        I_arrivals_l3 g t a0 a1 w2 x1 x2 ls3 (g.wrap .i64 (g.add v4 1)) l8 true)
       (
        I_arrivals_l3 g t a0 a1 w2 x1 x2 ls3 (g.wrap .i64 (g.add v4 1)) w3 v3)))
     (
      I_arrivals_l3 g t a0 a1 w2 x1 x2 ls3 (g.wrap .i64 (g.add v4 1)) w3 v3))
def I_arrivals_l2 (g : G) (t : TE) (a0 : Network) (a1 : Fd) (x1 : List ByteArray) (x2 : Int) : Nat → List Int → Option (List Int)
  | 0, w2 =>
    some w2
  | n2 + 1, w2 =>
    lP ([]) fun (l5 : List Int) =>
    gd (((l5.length + w2.length) * 8 ≤ 70368744177664)) <|
    lP (l5 ++ w2) fun (l6 : List Int) =>
    cl (I_arrivals_l3 g t a0 a1 w2 x1 x2 a0.Legs 0 l6 false) fun y2 =>
    br y2.2
    (
     I_arrivals_l2 g t a0 a1 x1 x2 n2 y2.1)
    (
     some y2.1)
def I_arrivals_l1 (g : G) (t : TE) : Nat → List Int → Option (List Int)
  | 0, w1 =>
    some w1
  | n1 + 1, w1 =>
    lP ([(-1)]) fun (l2 : List Int) =>
    gd (((w1.length + l2.length) * 8 ≤ 70368744177664)) <|
    lP (w1 ++ l2) fun (l3 : List Int) =>
    I_arrivals_l1 g t n1 l3
def I_arrivals (g : G) (t : TE) (a0 : Network) (a1 : Fd) (a2 : ByteArray) (a3 : Int) (a4 : Int) : Option (List Int) :=
  cl (I_PlacesOf g t a0) fun x1 =>
  lP (I_placeAt g t x1 a2) fun x2 =>
  br (g.lt x2 0)
  (
   some [])
  (
   br (g.lt 100000 a3)
   (
    some [])
   (
    br (g.lt a4 0)
    (
     some [])
    (
     lP ([]) fun (l1 : List Int) =>
     gd (((g.int (g.dlen (t.d_S x1))) ≤ 9223372036854775807)) <|
     cl (I_arrivals_l1 g t (cntLt 0 (g.int (g.dlen (t.d_S x1)))) l1) fun y1 =>
     gd (((0 : Int) ≤ x2 ∧ x2 < (((g.dlen (t.d_I64 y1)) : Nat) : Int))) <|
     gt y1 (g.nat x2) fun x3 =>
     lP (List.set y1 (g.nat x2) (g.imax a3 0)) fun (l4 : List Int) =>
     gd ((a4 ≤ 9223372036854775807)) <|
     cl (I_arrivals_l2 g t a0 a1 x1 x2 (cntLt 0 a4) l4) fun y3 =>
     some y3)))
theorem fit53 : codeFit Try.prog Try.f53.ntmps (Try.f53.body.getD .skip) ir53 = true := by kernel_rfl
theorem c_I_arrivals {g : G} {t : TE} {a0 : Network} {a1 : Fd} {a2 : ByteArray} {a3 : Int} {a4 : Int} {r : List Int} (hg : g = G.real) (ht : t = TE.real) (h : I_arrivals g t a0 a1 a2 a3 a4 = some r) : Fn Try.prog 53 [.g (Network.rs t a0), .c (t.r_Fd a1), .c (.v (.string a2)), .c (.v (.int .i64 a3)), .c (.v (.int .i64 a4))] (.c (.o 1 (t.d_I64 r))) := by
  obtain ⟨X, hX⟩ := hide (.c (.o 1 (t.d_I64 r)) : X)
  rw [← hX]
  refine fn_of (rvs := rv53) (j := ir53) Try.func53 rfl fit53 (Nat.le_of_ble_eq_true rfl) (by kernel_rfl) prog_mixed ?_
  intro g2 F hg2 hF
  obtain rfl : g2 = g := hg2.unique.trans hg.symm
  clear hg2
  obtain ⟨wrap, lt, le, eq, quo, rem, band, bor, bxor, shl, shr, nat, int, add, sub, mul, cat, seq, slt, sub3, byte, llen, nadd, nsub, dlen, dapp, dset, drep, rd, rda, up, rsub, dsub, all, sle, slen, hasI, putI, hasS, putS, imin, imax, fzc, bstr⟩ := g2
  obtain ⟨r_Leg, d_Leg, r_I64, d_I64, r_Booking, d_Booking, r_Trip, d_Trip, r_S, d_S, r_LI64, d_LI64, r_U8, d_U8, r_Fd⟩ := t
  obtain ⟨a0_Legs, a0_Off, a0_Change⟩ := a0
  have hnil_I64 : d_I64 [] = [] := d_nil_I64 ht
  unfold I_arrivals at h
  try dsimp only at h
  cbv
  obtain ⟨x1, hx1, h⟩ := of_cl h
  try dsimp only at h
  refine ACall.mk _ _ rfl (hF _ _ _ (c_I_PlacesOf hg ht hx1)) (.inl rfl) (Nat.le_of_ble_eq_true rfl) ?_
  cbv
  refine AStep.mk (lend_S ht (dlen_S hg ht _)) ?_
  cbv
  obtain ⟨x2, hx2, h⟩ := of_lP h
  try dsimp only at h
  refine ACall.mk _ _ (by rw [show rd (d_S x1) 0 (dlen (d_S x1)) = r_S x1 from rdw_S hg ht (dlen_S hg ht _)]; try rfl) (hF _ _ _ (c_I_placeAt hg ht hx2)) (.inr rfl) (Nat.le_of_ble_eq_true rfl) ?_
  cbv
  cases hb1 : (lt x2 0) with
  | true =>
    rw [br_true hb1] at h
    cbv
    try (rw [hb1]; cbv)
    try (rw [hb1]; cbv)
    obtain rfl := Option.some.inj h
    exact ARet.mk trivial (by rw [hX]; first | rfl | (simp only [Leg.ds, Network.ds, Trip.ds, Scan.ds, Booking.ds, Spot.ds, hnil_I64]; try rfl))
  | false =>
    rw [br_false hb1] at h
    cbv
    try (rw [hb1]; cbv)
    try (rw [hb1]; cbv)
    cases hb2 : (lt 100000 a3) with
    | true =>
      rw [br_true hb2] at h
      cbv
      try (rw [hb2]; cbv)
      try (rw [hb2]; cbv)
      obtain rfl := Option.some.inj h
      exact ARet.mk trivial (by rw [hX]; first | rfl | (simp only [Leg.ds, Network.ds, Trip.ds, Scan.ds, Booking.ds, Spot.ds, hnil_I64]; try rfl))
    | false =>
      rw [br_false hb2] at h
      cbv
      try (rw [hb2]; cbv)
      try (rw [hb2]; cbv)
      cases hb3 : (lt a4 0) with
      | true =>
        rw [br_true hb3] at h
        cbv
        obtain rfl := Option.some.inj h
        exact ARet.mk trivial (by rw [hX]; first | rfl | (simp only [Leg.ds, Network.ds, Trip.ds, Scan.ds, Booking.ds, Spot.ds, hnil_I64]; try rfl))
      | false =>
        rw [br_false hb3] at h
        cbv
        obtain ⟨l1, hl1, h⟩ := of_lP h
        try dsimp only at h
        refine ANew.mk (d_I64 l1) (dlen (d_I64 l1)) (by rw [← hl1]; exact lit_I64 hg ht []) (by rw [← hl1]; exact litn_I64 hg ht []) ?_
        cbv
        obtain ⟨hB1, h⟩ := of_gd h
        obtain ⟨o1, ho1, h⟩ := of_cl h
        try dsimp only at h
        try rw [hg] at ho1
        try rw [ht] at ho1
        refine ABL.mk { p : Nat × Int × List Int // p.1 = cntLt p.2.1 (int (dlen (d_S x1))) ∧ 0 ≤ p.2.1 ∧ I_arrivals_l1 G.real TE.real p.1 p.2.2 = some o1 } (fun ⟨⟨n1, v1, w1⟩, _⟩ => ({ sl := [(1, .c (.r (r_Fd a1))), (3, .c (.r (.v (.int .i64 a3)))), (4, .c (.r (.v (.int .i64 a4)))), (5, .c (.p 0 3 0 0)), (11, .c (.f 1 1 0 (dlen (d_S x1)))), (12, .c (.r (.v (.int .i64 x2)))), (13, .c (.f 2 1 0 (dlen (d_I64 w1)))), (40, .c (.r (.v (.int .i64 (int (dlen (d_S x1))))))), (41, .c (.r (.v (.int .i64 v1))))], tab := [(0, some (.foc 3 [] [.r (.s 6 (r_Leg a0_Legs)), .r (.s 1 (r_I64 a0_Off)), .r (.v (.int .i64 a0_Change))] [])), (1, some (.arr 1 (d_S x1))), (2, some (.arr 1 (d_I64 w1)))] } : St)) 3 (fun p => p.1.1) ⟨(cntLt 0 (int (dlen (d_S x1))), 0, l1), rfl, Int.le_refl _, ho1⟩ (List Int) (fun y1 => ({ sl := [(1, .c (.r (r_Fd a1))), (3, .c (.r (.v (.int .i64 a3)))), (4, .c (.r (.v (.int .i64 a4)))), (5, .c (.p 0 3 0 0)), (11, .c (.f 1 1 0 (dlen (d_S x1)))), (12, .c (.r (.v (.int .i64 x2)))), (13, .c (.f 2 1 0 (dlen (d_I64 y1))))], tab := [(0, some (.foc 3 [] [.r (.s 6 (r_Leg a0_Legs)), .r (.s 1 (r_I64 a0_Off)), .r (.v (.int .i64 a0_Change))] [])), (1, some (.arr 1 (d_S x1))), (2, some (.arr 1 (d_I64 y1)))] } : St)) 3 (fun y => o1 = y) ?_ ?_ ?_
        · refine Wk.of [(0, some 0), (1, some 48), (2, some 304)] rfl rfl ?_ ?_
          · cbv
            all_goals exact ⟨⟨_, rfl, rfl⟩, ⟨_, rfl, rfl⟩, ⟨_, rfl, rfl⟩, ⟨_, rfl, rfl⟩, ⟨_, rfl, rfl⟩, ⟨_, rfl, rfl⟩, ⟨_, rfl, rfl⟩, ⟨_, rfl, rfl⟩, ⟨_, rfl, rfl⟩, trivial⟩
          · cbv
            all_goals exact ⟨⟨_, rfl, _, rfl, rfl, rfl, rfl, trivial⟩, ⟨_, rfl, rfl⟩, ⟨_, rfl, rfl⟩, trivial⟩
        · rintro ⟨⟨n1, v1, w1⟩, hn1, hi1, h_1⟩ hq1
          try dsimp only at hn1 hi1 h_1
          clear hq1
          cbv
          rcases n1 with _ | n1
          · have hb4 : lt v1 (int (dlen (d_S x1))) = false := ltC_false hg hn1
            rw [I_arrivals_l1] at h_1
            try rw [← hg] at h_1
            try rw [← ht] at h_1
            try dsimp only at h_1
            rw [hb4]
            cbv
            refine ⟨w1, Wk.of [(0, some 0), (1, some 1), (2, some 2)] rfl rfl ?_ ?_, (Option.some.inj h_1).symm⟩
            · cbv
              all_goals exact ⟨⟨_, rfl, rfl⟩, ⟨_, rfl, rfl⟩, ⟨_, rfl, rfl⟩, ⟨_, rfl, rfl⟩, ⟨_, rfl, rfl⟩, ⟨_, rfl, rfl⟩, ⟨_, rfl, rfl⟩, trivial⟩
            · cbv
              all_goals exact ⟨⟨_, rfl, _, rfl, rfl, rfl, rfl, trivial⟩, ⟨_, rfl, rfl⟩, ⟨_, rfl, rfl⟩, trivial⟩
          · have hb4 : lt v1 (int (dlen (d_S x1))) = true := ltC_true hg hn1
            have hl1 := ltC_le hn1
            have hs1 := stepltC hg hn1 hi1 hB1 (by decide)
            rw [I_arrivals_l1] at h_1
            try rw [← hg] at h_1
            try rw [← ht] at h_1
            try dsimp only at h_1
            rw [hb4]
            cbv
            obtain ⟨l2, hl2, h_1⟩ := of_lP h_1
            try dsimp only at h_1
            refine ANew.mk (d_I64 l2) (dlen (d_I64 l2)) (by rw [← hl2]; exact lit_I64 hg ht [(-1)]) (by rw [← hl2]; exact litn_I64 hg ht [(-1)]) ?_
            cbv
            obtain ⟨hc1, h_1⟩ := of_gd h_1
            refine AStep.mk ⟨⟨rfl, (dlen_I64 hg ht _)⟩, (app_ok_I64 hg ht (dlen_I64 hg ht _) rfl hc1)⟩ ?_
            cbv
            obtain ⟨l3, hl3, h_1⟩ := of_lP h_1
            try dsimp only at h_1
            refine ANew.mk (d_I64 l3) (dlen (d_I64 l3)) (by rw [← hl3]; exact app_I64 hg ht (dlen_I64 hg ht _) rfl) (by rw [← hl3]; exact appl_I64 hg ht (dlen_I64 hg ht _) rfl) ?_
            cbv
            try rw [hg] at h_1
            try rw [ht] at h_1
            refine ⟨⟨(n1, (wrap .i64 (add v1 1)), l3), hs1.1, hs1.2, h_1⟩, Wk.of [(0, some 0), (1, some 1), (2, some 51)] rfl rfl ?_ ?_, Nat.lt_succ_self _⟩
            · cbv
              all_goals exact ⟨⟨_, rfl, rfl⟩, ⟨_, rfl, rfl⟩, ⟨_, rfl, rfl⟩, ⟨_, rfl, rfl⟩, ⟨_, rfl, rfl⟩, ⟨_, rfl, rfl⟩, ⟨_, rfl, rfl⟩, ⟨_, rfl, rfl⟩, ⟨_, rfl, rfl⟩, trivial⟩
            · cbv
              all_goals exact ⟨⟨_, rfl, _, rfl, rfl, rfl, rfl, trivial⟩, ⟨_, rfl, rfl⟩, ⟨_, rfl, rfl⟩, trivial⟩
        · rintro y1 hy1
          replace hy1 := hy1.symm
          subst hy1
          try dsimp only [lr, lrL, lrp, lrpL] at h
          cbv
          obtain ⟨hc2, h⟩ := of_gd h
          refine AStep.mk hc2 ?_
          cbv
          obtain ⟨x3, hx3, h⟩ := of_gt h
          try dsimp only at h
          refine AGet.mk _ (d_get_I64 hg ht hx3) ?_
          cbv
          obtain ⟨l4, hl4, h⟩ := of_lP h
          try dsimp only at h
          refine ANew.mk (d_I64 l4) _ (by rw [← hl4]; exact dset_I64 hg ht _ _ (imax a3 0)) rfl ?_
          have hnl4 : (dlen (d_I64 y1)) = (d_I64 l4).length := (by rw [← hl4, dsetl_I64 ht]; exact (dlen_I64 hg ht _))
          cbv
          obtain ⟨hB2, h⟩ := of_gd h
          obtain ⟨o2, ho2, h⟩ := of_cl h
          try dsimp only at h
          try rw [hg] at ho2
          try rw [ht] at ho2
          refine ABL.mk { p : Nat × Int × List Int // p.1 = cntLt p.2.1 a4 ∧ 0 ≤ p.2.1 ∧ I_arrivals_l2 G.real TE.real (Network.mk a0_Legs a0_Off a0_Change) a1 x1 x2 p.1 p.2.2 = some o2 } (fun ⟨⟨n2, v2, w2⟩, _⟩ => ({ sl := [(1, .c (.r (r_Fd a1))), (4, .c (.r (.v (.int .i64 a4)))), (5, .c (.p 0 3 0 0)), (11, .c (.f 1 1 0 (dlen (d_S x1)))), (12, .c (.r (.v (.int .i64 x2)))), (13, .c (.f 2 1 0 (dlen (d_I64 w2)))), (14, .c (.r (.v (.int .i64 v2))))], tab := [(0, some (.foc 3 [] [.r (.s 6 (r_Leg a0_Legs)), .r (.s 1 (r_I64 a0_Off)), .r (.v (.int .i64 a0_Change))] [])), (1, some (.arr 1 (d_S x1))), (2, some (.arr 1 (d_I64 w2)))] } : St)) 3 (fun p => p.1.1) ⟨(cntLt 0 a4, 0, l4), rfl, Int.le_refl _, ho2⟩ (List Int) (fun y3 => ({ sl := [(13, .c (.f 0 1 0 (dlen (d_I64 y3))))], tab := [(0, some (.arr 1 (d_I64 y3)))] } : St)) 1 (fun y => o2 = y) ?_ ?_ ?_
          · refine Wk.of [(0, some 0), (1, some 1), (2, some 2)] rfl rfl ?_ ?_
            · cbv
              all_goals try rw [show (dlen (d_I64 y1)) = (dlen (d_I64 l4)) from (hnl4).trans (dlen_I64 hg ht _).symm]
              all_goals exact ⟨⟨_, rfl, rfl⟩, ⟨_, rfl, rfl⟩, ⟨_, rfl, rfl⟩, ⟨_, rfl, rfl⟩, ⟨_, rfl, rfl⟩, ⟨_, rfl, rfl⟩, ⟨_, rfl, rfl⟩, trivial⟩
            · cbv
              all_goals try rw [show (dlen (d_I64 y1)) = (dlen (d_I64 l4)) from (hnl4).trans (dlen_I64 hg ht _).symm]
              all_goals exact ⟨⟨_, rfl, _, rfl, rfl, rfl, rfl, trivial⟩, ⟨_, rfl, rfl⟩, ⟨_, rfl, rfl⟩, trivial⟩
          · rintro ⟨⟨n2, v2, w2⟩, hn2, hi2, h_2⟩ hq2
            try dsimp only at hn2 hi2 h_2
            clear hq2
            cbv
            rcases n2 with _ | n2
            · have hb5 : lt v2 a4 = false := ltC_false hg hn2
              rw [I_arrivals_l2] at h_2
              try rw [← hg] at h_2
              try rw [← ht] at h_2
              try dsimp only at h_2
              rw [hb5]
              cbv
              refine ⟨w2, Wk.of [(0, some 2)] rfl rfl ?_ ?_, (Option.some.inj h_2).symm⟩
              · cbv
                all_goals exact ⟨⟨_, rfl, rfl⟩, trivial⟩
              · cbv
                all_goals exact ⟨⟨_, rfl, rfl⟩, trivial⟩
            · have hb5 : lt v2 a4 = true := ltC_true hg hn2
              have hl2 := ltC_le hn2
              have hs2 := stepltC hg hn2 hi2 hB2 (by decide)
              rw [I_arrivals_l2] at h_2
              try rw [← hg] at h_2
              try rw [← ht] at h_2
              try dsimp only at h_2
              rw [hb5]
              cbv
              obtain ⟨l5, hl5, h_2⟩ := of_lP h_2
              try dsimp only at h_2
              refine ANew.mk (d_I64 l5) (dlen (d_I64 l5)) (by rw [← hl5]; exact lit_I64 hg ht []) (by rw [← hl5]; exact litn_I64 hg ht []) ?_
              cbv
              obtain ⟨hc9, h_2⟩ := of_gd h_2
              refine AStep.mk ⟨(subw_ok_I64 hg ht (dlen_I64 hg ht _)), (app_ok_I64 hg ht (dlen_I64 hg ht _) (dsubw_I64 hg ht (dlen_I64 hg ht _)) hc9)⟩ ?_
              cbv
              obtain ⟨l6, hl6, h_2⟩ := of_lP h_2
              try dsimp only at h_2
              refine ANew.mk (d_I64 l6) (dlen (d_I64 l6)) (by rw [← hl6]; exact app_I64 hg ht (dlen_I64 hg ht _) (dsubw_I64 hg ht (dlen_I64 hg ht _))) (by rw [← hl6]; exact appl_I64 hg ht (dlen_I64 hg ht _) (dsubw_I64 hg ht (dlen_I64 hg ht _))) ?_
              cbv
              obtain ⟨o3, ho3, h_2⟩ := of_cl h_2
              try dsimp only at h_2
              try rw [hg] at ho3
              try rw [ht] at ho3
              refine ABL.mk { p : Nat × Int × (List Int) × Bool // p.1 ≤ a0_Legs.length ∧ p.2.1 = ((p.1 : Nat) : Int) ∧ I_arrivals_l3 G.real TE.real (Network.mk a0_Legs a0_Off a0_Change) a1 w2 x1 x2 (List.drop p.1 a0_Legs) p.2.1 p.2.2.1 p.2.2.2 = some o3 } (fun ⟨⟨k3, v4, w3, v3⟩, _⟩ => ({ sl := [(1, .c (.r (r_Fd a1))), (4, .c (.r (.v (.int .i64 a4)))), (5, .c (.p 0 3 0 0)), (11, .c (.f 1 1 0 (dlen (d_S x1)))), (12, .c (.r (.v (.int .i64 x2)))), (13, .c (.f 2 1 0 (dlen (d_I64 w2)))), (14, .c (.r (.v (.int .i64 v2)))), (15, .c (.f 3 1 0 (dlen (d_I64 w3)))), (16, .c (.r (.v (.bool v3)))), (61, .c (.r (.s 6 (r_Leg a0_Legs)))), (62, .c (.r (.v (.int .i64 (llen (r_Leg a0_Legs)))))), (63, .c (.r (.v (.int .i64 v4))))], tab := [(0, some (.foc 3 [] [.r (.s 6 (r_Leg a0_Legs)), .r (.s 1 (r_I64 a0_Off)), .r (.v (.int .i64 a0_Change))] [])), (1, some (.arr 1 (d_S x1))), (2, some (.arr 1 (d_I64 w2))), (3, some (.arr 1 (d_I64 w3)))] } : St)) 4 (fun p => a0_Legs.length - p.1.1) ⟨(0, 0, l6, false), Nat.zero_le _, rfl, ho3⟩ ((List Int) × Bool) (fun ⟨y2_1, y2_2⟩ => ({ sl := [(1, .c (.r (r_Fd a1))), (4, .c (.r (.v (.int .i64 a4)))), (5, .c (.p 0 3 0 0)), (11, .c (.f 1 1 0 (dlen (d_S x1)))), (12, .c (.r (.v (.int .i64 x2)))), (14, .c (.r (.v (.int .i64 v2)))), (15, .c (.f 2 1 0 (dlen (d_I64 y2_1)))), (16, .c (.r (.v (.bool y2_2))))], tab := [(0, some (.foc 3 [] [.r (.s 6 (r_Leg a0_Legs)), .r (.s 1 (r_I64 a0_Off)), .r (.v (.int .i64 a0_Change))] [])), (1, some (.arr 1 (d_S x1))), (2, some (.arr 1 (d_I64 y2_1)))] } : St)) 3 (fun y => o3 = y) ?_ ?_ ?_
              · refine Wk.of [(0, some 0), (1, some 1), (2, some 2), (3, some 83)] rfl rfl ?_ ?_
                · cbv
                  all_goals exact ⟨⟨_, rfl, rfl⟩, ⟨_, rfl, rfl⟩, ⟨_, rfl, rfl⟩, ⟨_, rfl, rfl⟩, ⟨_, rfl, rfl⟩, ⟨_, rfl, rfl⟩, ⟨_, rfl, rfl⟩, ⟨_, rfl, rfl⟩, ⟨_, rfl, rfl⟩, ⟨_, rfl, rfl⟩, ⟨_, rfl, rfl⟩, ⟨_, rfl, rfl⟩, trivial⟩
                · cbv
                  all_goals exact ⟨⟨_, rfl, _, rfl, rfl, rfl, rfl, trivial⟩, ⟨_, rfl, rfl⟩, ⟨_, rfl, rfl⟩, ⟨_, rfl, rfl⟩, trivial⟩
              · rintro ⟨⟨k3, v4, w3, v3⟩, hk3, hi3, h_3⟩ hq3
                have hm3 := (hq3.1 61 _ _ rfl)
                try dsimp only at hk3 hi3 h_3
                clear hq3
                cbv
                by_cases hc3_ : k3 < a0_Legs.length
                · have hb6 : lt v4 (llen (r_Leg a0_Legs)) = true := ltL_true_Leg hg ht hi3 hc3_
                  have hs3 := stepL_Leg hg ht hi3 hc3_ hm3
                  obtain ⟨z3, hz3⟩ := some_of_lt hc3_
                  rw [drop_of_some hz3] at h_3
                  rw [I_arrivals_l3] at h_3
                  obtain ⟨z3_From, z3_To, z3_Start, z3_Takes, z3_Days, z3_Room⟩ := z3
                  try rw [← hg] at h_3
                  try rw [← ht] at h_3
                  try dsimp only at h_3
                  rw [hb6]
                  cbv
                  refine AStep.mk (nn_L hi3) ?_
                  cbv
                  refine AGet.mk _ (r_getL_Leg hg ht hi3 hz3) ?_
                  cbv
                  refine AStep.mk (lend_S ht (dlen_S hg ht _)) ?_
                  cbv
                  obtain ⟨x4, hx4, h_3⟩ := of_lP h_3
                  try dsimp only at h_3
                  refine ACall.mk _ _ (by rw [show rd (d_S x1) 0 (dlen (d_S x1)) = r_S x1 from rdw_S hg ht (dlen_S hg ht _)]; try rfl) (hF _ _ _ (c_I_placeAt hg ht hx4)) (.inr rfl) (Nat.le_of_ble_eq_true rfl) ?_
                  cbv
                  refine AStep.mk (lend_S ht (dlen_S hg ht _)) ?_
                  cbv
                  obtain ⟨x5, hx5, h_3⟩ := of_lP h_3
                  try dsimp only at h_3
                  refine ACall.mk _ _ (by rw [show rd (d_S x1) 0 (dlen (d_S x1)) = r_S x1 from rdw_S hg ht (dlen_S hg ht _)]; try rfl) (hF _ _ _ (c_I_placeAt hg ht hx5)) (.inr rfl) (Nat.le_of_ble_eq_true rfl) ?_
                  cbv
                  obtain ⟨hc3, h_3⟩ := of_gd h_3
                  refine AStep.mk hc3 ?_
                  cbv
                  obtain ⟨x6, hx6, h_3⟩ := of_gt h_3
                  try dsimp only at h_3
                  refine AGet.mk _ (d_get_I64 hg ht hx6) ?_
                  cbv
                  cases hb7 : (lt x6 0) with
                  | true =>
                    rw [br_true hb7] at h_3
                    cbv
                    try rw [hg] at h_3
                    try rw [ht] at h_3
                    refine ⟨⟨(k3 + 1, (wrap .i64 (add v4 1)), w3, v3), hc3_, hs3, h_3⟩, Wk.of [(0, some 0), (1, some 1), (2, some 2), (3, some 3)] rfl rfl ?_ ?_, meas_L hc3_⟩
                    · cbv
                      all_goals exact ⟨⟨_, rfl, rfl⟩, ⟨_, rfl, rfl⟩, ⟨_, rfl, rfl⟩, ⟨_, rfl, rfl⟩, ⟨_, rfl, rfl⟩, ⟨_, rfl, rfl⟩, ⟨_, rfl, rfl⟩, ⟨_, rfl, rfl⟩, ⟨_, rfl, rfl⟩, ⟨_, rfl, rfl⟩, ⟨_, rfl, rfl⟩, ⟨_, rfl, rfl⟩, trivial⟩
                    · cbv
                      all_goals exact ⟨⟨_, rfl, _, rfl, rfl, rfl, rfl, trivial⟩, ⟨_, rfl, rfl⟩, ⟨_, rfl, rfl⟩, ⟨_, rfl, rfl⟩, trivial⟩
                  | false =>
                    rw [br_false hb7] at h_3
                    cbv
                    obtain ⟨hc4, h_3⟩ := of_gd h_3
                    refine AStep.mk hc4 ?_
                    cbv
                    refine AGet.mk _ (d_get_I64 hg ht hx6) ?_
                    cbv
                    obtain ⟨x7, hx7, h_3⟩ := of_lP h_3
                    try dsimp only at h_3
                    refine ACall.mk _ _ rfl (hF _ _ _ (c_I_readyAt hg ht hx7)) (.inl rfl) (Nat.le_of_ble_eq_true rfl) ?_
                    cbv
                    obtain ⟨x8, hx8, h_3⟩ := of_cl h_3
                    obtain ⟨⟨x8_1_Leg, x8_1_Day⟩, x8_2⟩ := x8
                    try dsimp only at h_3
                    obtain ⟨f_, bs_, hr_, hc_⟩ := c_callFd hg ht hx8
                    refine ACallV.mk f_ bs_ _ _ hr_ rfl (hF _ _ _ hc_) (.inl rfl) (Nat.le_of_ble_eq_true rfl) ?_
                    clear hr_ hc_
                    cbv
                    cases hb8 : x8_2 with
                    | true =>
                      rw [br_true hb8] at h_3
                      cbv
                      try (rw [hb8]; cbv)
                      try (rw [hb8]; cbv)
                      obtain ⟨hc5, h_3⟩ := of_gd h_3
                      refine AStep.mk hc5 ?_
                      cbv
                      try (rw [hb8]; cbv)
                      obtain ⟨x9, hx9, h_3⟩ := of_gt h_3
                      try dsimp only at h_3
                      refine AGet.mk _ (d_get_I64 hg ht hx9) ?_
                      cbv
                      try (rw [hb8]; cbv)
                      try (rw [hb8]; cbv)
                      cases hb9 : (lt x9 0) with
                      | true =>
                        rw [br_true hb9] at h_3
                        cbv
                        try (rw [hb9]; cbv)
                        try (rw [hb9]; cbv)
                        try (rw [hb9]; cbv)
                        try (rw [hb9]; cbv)
                        try (rw [hb9]; cbv)
                        try (rw [hb9]; cbv)
                        try (rw [hb9]; cbv)
                        try (rw [hb8]; cbv)
                        try (rw [hb9]; cbv)
                        try (rw [hb8]; cbv)
                        obtain ⟨x10, hx10, h_3⟩ := of_cl h_3
                        try dsimp only at h_3
                        refine ACall.mk _ _ rfl (hF _ _ _ (c_I_ends hg ht hx10)) (.inl rfl) (Nat.le_of_ble_eq_true rfl) ?_
                        cbv
                        obtain ⟨hc6, h_3⟩ := of_gd h_3
                        refine AStep.mk hc6 ?_
                        cbv
                        refine AGet.mk _ (d_get_I64 hg ht hx9) ?_
                        cbv
                        obtain ⟨l7, hl7, h_3⟩ := of_lP h_3
                        try dsimp only at h_3
                        refine ANew.mk (d_I64 l7) _ (by rw [← hl7]; exact dset_I64 hg ht _ _ x10) rfl ?_
                        have hnl7 : (dlen (d_I64 w3)) = (d_I64 l7).length := (by rw [← hl7, dsetl_I64 ht]; exact (dlen_I64 hg ht _))
                        cbv
                        try rw [hg] at h_3
                        try rw [ht] at h_3
                        refine ⟨⟨(k3 + 1, (wrap .i64 (add v4 1)), l7, true), hc3_, hs3, h_3⟩, Wk.of [(0, some 0), (1, some 1), (2, some 2), (3, some 3)] rfl rfl ?_ ?_, meas_L hc3_⟩
                        · cbv
                          all_goals try rw [show (dlen (d_I64 w3)) = (dlen (d_I64 l7)) from (hnl7).trans (dlen_I64 hg ht _).symm]
                          all_goals exact ⟨⟨_, rfl, rfl⟩, ⟨_, rfl, rfl⟩, ⟨_, rfl, rfl⟩, ⟨_, rfl, rfl⟩, ⟨_, rfl, rfl⟩, ⟨_, rfl, rfl⟩, ⟨_, rfl, rfl⟩, ⟨_, rfl, rfl⟩, ⟨_, rfl, rfl⟩, ⟨_, rfl, rfl⟩, ⟨_, rfl, rfl⟩, ⟨_, rfl, rfl⟩, trivial⟩
                        · cbv
                          all_goals try rw [show (dlen (d_I64 w3)) = (dlen (d_I64 l7)) from (hnl7).trans (dlen_I64 hg ht _).symm]
                          all_goals exact ⟨⟨_, rfl, _, rfl, rfl, rfl, rfl, trivial⟩, ⟨_, rfl, rfl⟩, ⟨_, rfl, rfl⟩, ⟨_, rfl, rfl⟩, trivial⟩
                      | false =>
                        rw [br_false hb9] at h_3
                        cbv
                        try (rw [hb9]; cbv)
                        try (rw [hb9]; cbv)
                        obtain ⟨x11, hx11, h_3⟩ := of_cl h_3
                        try dsimp only at h_3
                        refine ACall.mk _ _ rfl (hF _ _ _ (c_I_ends hg ht hx11)) (.inl rfl) (Nat.le_of_ble_eq_true rfl) ?_
                        cbv
                        try (rw [hb9]; cbv)
                        try (rw [hb9]; cbv)
                        try (rw [hb9]; cbv)
                        obtain ⟨hc7, h_3⟩ := of_gd h_3
                        refine AStep.mk hc7 ?_
                        cbv
                        try (rw [hb9]; cbv)
                        refine AGet.mk _ (d_get_I64 hg ht hx9) ?_
                        cbv
                        try (rw [hb9]; cbv)
                        try (rw [hb8]; cbv)
                        try (rw [hb9]; cbv)
                        try (rw [hb8]; cbv)
                        cases hb10 : (lt x11 x9) with
                        | true =>
                          rw [br_true hb10] at h_3
                          cbv
                          obtain ⟨x12, hx12, h_3⟩ := of_cl h_3
                          try dsimp only at h_3
                          refine ACall.mk _ _ rfl (hF _ _ _ (c_I_ends hg ht hx12)) (.inl rfl) (Nat.le_of_ble_eq_true rfl) ?_
                          cbv
                          obtain ⟨hc8, h_3⟩ := of_gd h_3
                          refine AStep.mk hc8 ?_
                          cbv
                          refine AGet.mk _ (d_get_I64 hg ht hx9) ?_
                          cbv
                          obtain ⟨l8, hl8, h_3⟩ := of_lP h_3
                          try dsimp only at h_3
                          refine ANew.mk (d_I64 l8) _ (by rw [← hl8]; exact dset_I64 hg ht _ _ x12) rfl ?_
                          have hnl8 : (dlen (d_I64 w3)) = (d_I64 l8).length := (by rw [← hl8, dsetl_I64 ht]; exact (dlen_I64 hg ht _))
                          cbv
                          try rw [hg] at h_3
                          try rw [ht] at h_3
                          refine ⟨⟨(k3 + 1, (wrap .i64 (add v4 1)), l8, true), hc3_, hs3, h_3⟩, Wk.of [(0, some 0), (1, some 1), (2, some 2), (3, some 3)] rfl rfl ?_ ?_, meas_L hc3_⟩
                          · cbv
                            all_goals try rw [show (dlen (d_I64 w3)) = (dlen (d_I64 l8)) from (hnl8).trans (dlen_I64 hg ht _).symm]
                            all_goals exact ⟨⟨_, rfl, rfl⟩, ⟨_, rfl, rfl⟩, ⟨_, rfl, rfl⟩, ⟨_, rfl, rfl⟩, ⟨_, rfl, rfl⟩, ⟨_, rfl, rfl⟩, ⟨_, rfl, rfl⟩, ⟨_, rfl, rfl⟩, ⟨_, rfl, rfl⟩, ⟨_, rfl, rfl⟩, ⟨_, rfl, rfl⟩, ⟨_, rfl, rfl⟩, trivial⟩
                          · cbv
                            all_goals try rw [show (dlen (d_I64 w3)) = (dlen (d_I64 l8)) from (hnl8).trans (dlen_I64 hg ht _).symm]
                            all_goals exact ⟨⟨_, rfl, _, rfl, rfl, rfl, rfl, trivial⟩, ⟨_, rfl, rfl⟩, ⟨_, rfl, rfl⟩, ⟨_, rfl, rfl⟩, trivial⟩
                        | false =>
                          rw [br_false hb10] at h_3
                          cbv
                          try rw [hg] at h_3
                          try rw [ht] at h_3
                          refine ⟨⟨(k3 + 1, (wrap .i64 (add v4 1)), w3, v3), hc3_, hs3, h_3⟩, Wk.of [(0, some 0), (1, some 1), (2, some 2), (3, some 3)] rfl rfl ?_ ?_, meas_L hc3_⟩
                          · cbv
                            all_goals exact ⟨⟨_, rfl, rfl⟩, ⟨_, rfl, rfl⟩, ⟨_, rfl, rfl⟩, ⟨_, rfl, rfl⟩, ⟨_, rfl, rfl⟩, ⟨_, rfl, rfl⟩, ⟨_, rfl, rfl⟩, ⟨_, rfl, rfl⟩, ⟨_, rfl, rfl⟩, ⟨_, rfl, rfl⟩, ⟨_, rfl, rfl⟩, ⟨_, rfl, rfl⟩, trivial⟩
                          · cbv
                            all_goals exact ⟨⟨_, rfl, _, rfl, rfl, rfl, rfl, trivial⟩, ⟨_, rfl, rfl⟩, ⟨_, rfl, rfl⟩, ⟨_, rfl, rfl⟩, trivial⟩
                    | false =>
                      rw [br_false hb8] at h_3
                      cbv
                      try (rw [hb8]; cbv)
                      try (rw [hb8]; cbv)
                      try (rw [hb8]; cbv)
                      try (rw [hb8]; cbv)
                      try (rw [hb8]; cbv)
                      try (rw [hb8]; cbv)
                      try (rw [hb8]; cbv)
                      try rw [hg] at h_3
                      try rw [ht] at h_3
                      refine ⟨⟨(k3 + 1, (wrap .i64 (add v4 1)), w3, v3), hc3_, hs3, h_3⟩, Wk.of [(0, some 0), (1, some 1), (2, some 2), (3, some 3)] rfl rfl ?_ ?_, meas_L hc3_⟩
                      · cbv
                        all_goals exact ⟨⟨_, rfl, rfl⟩, ⟨_, rfl, rfl⟩, ⟨_, rfl, rfl⟩, ⟨_, rfl, rfl⟩, ⟨_, rfl, rfl⟩, ⟨_, rfl, rfl⟩, ⟨_, rfl, rfl⟩, ⟨_, rfl, rfl⟩, ⟨_, rfl, rfl⟩, ⟨_, rfl, rfl⟩, ⟨_, rfl, rfl⟩, ⟨_, rfl, rfl⟩, trivial⟩
                      · cbv
                        all_goals exact ⟨⟨_, rfl, _, rfl, rfl, rfl, rfl, trivial⟩, ⟨_, rfl, rfl⟩, ⟨_, rfl, rfl⟩, ⟨_, rfl, rfl⟩, trivial⟩
                · have hb6 : lt v4 (llen (r_Leg a0_Legs)) = false := ltL_false_Leg hg ht hi3 hc3_
                  rw [List.drop_of_length_le (Nat.le_of_not_lt hc3_)] at h_3
                  rw [I_arrivals_l3] at h_3
                  try rw [← hg] at h_3
                  try rw [← ht] at h_3
                  try dsimp only at h_3
                  rw [hb6]
                  cbv
                  refine ⟨(w3, v3), Wk.of [(0, some 0), (1, some 1), (2, some 3)] rfl rfl ?_ ?_, (Option.some.inj h_3).symm⟩
                  · cbv
                    all_goals exact ⟨⟨_, rfl, rfl⟩, ⟨_, rfl, rfl⟩, ⟨_, rfl, rfl⟩, ⟨_, rfl, rfl⟩, ⟨_, rfl, rfl⟩, ⟨_, rfl, rfl⟩, ⟨_, rfl, rfl⟩, ⟨_, rfl, rfl⟩, trivial⟩
                  · cbv
                    all_goals exact ⟨⟨_, rfl, _, rfl, rfl, rfl, rfl, trivial⟩, ⟨_, rfl, rfl⟩, ⟨_, rfl, rfl⟩, trivial⟩
              · rintro ⟨y2_1, y2_2⟩ hy3
                replace hy3 := hy3.symm
                subst hy3
                try dsimp only [lr, lrL, lrp, lrpL] at h_2
                cbv
                cases hb11 : y2_2 with
                | true =>
                  rw [br_true hb11] at h_2
                  cbv
                  try rw [hg] at h_2
                  try rw [ht] at h_2
                  refine ⟨⟨(n2, (wrap .i64 (add v2 1)), y2_1), hs2.1, hs2.2, h_2⟩, Wk.of [(0, some 0), (1, some 1), (2, some 2)] rfl rfl ?_ ?_, Nat.lt_succ_self _⟩
                  · cbv
                    all_goals exact ⟨⟨_, rfl, rfl⟩, ⟨_, rfl, rfl⟩, ⟨_, rfl, rfl⟩, ⟨_, rfl, rfl⟩, ⟨_, rfl, rfl⟩, ⟨_, rfl, rfl⟩, ⟨_, rfl, rfl⟩, trivial⟩
                  · cbv
                    all_goals exact ⟨⟨_, rfl, _, rfl, rfl, rfl, rfl, trivial⟩, ⟨_, rfl, rfl⟩, ⟨_, rfl, rfl⟩, trivial⟩
                | false =>
                  rw [br_false hb11] at h_2
                  cbv
                  refine ⟨y2_1, Wk.of [(0, some 2)] rfl rfl ?_ ?_, (Option.some.inj h_2).symm⟩
                  · cbv
                    all_goals exact ⟨⟨_, rfl, rfl⟩, trivial⟩
                  · cbv
                    all_goals exact ⟨⟨_, rfl, rfl⟩, trivial⟩
          · rintro y3 hy2
            replace hy2 := hy2.symm
            subst hy2
            try dsimp only [lr, lrL, lrp, lrpL] at h
            cbv
            obtain rfl := Option.some.inj h
            exact ARet.mk ⟨rfl, (dlen_I64 hg ht _)⟩ hX.symm
end Go.Vs
