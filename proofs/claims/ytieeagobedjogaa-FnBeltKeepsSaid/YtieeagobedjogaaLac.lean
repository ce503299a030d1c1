/- Part of the proofs of this seat's laws: Lac. No condition. -/
import Derived.Test.YtieeagobedjogaaTy
import Derived.Test.YtieeagobedjogaaTIRall
import Derived.Test.YtieeagobedjogaaLab
import Derived.Test.YtieeagobedjogaaLaa
import Derived.Test.YtieeagobedjogaaVg
import Derived.Test.YtieeagobedjogaaProg
import Derived.Shelf.Sort.AssemblyIn
import Derived.Shelf.Sort.So_math_bits_LenIn
import Derived.Shelf.Lay
import Derived.Sort.EveryDepth
import Derived.Lib.Walk
import Derived.LoopN
set_option linter.unusedVariables false
set_option linter.unusedSimpArgs false
set_option linter.unusedSectionVars false
namespace Go.Vs
set_option maxRecDepth 100000
def ir92 : J :=
  .seq (.reg none [⟨(some 2), none, .alloc [.n 2, .n 3, .n 2, .n 1, .r (.v (.int .i64 0))]⟩] [0, 2])
  (.seq (.reg none [⟨(some 4), none, .mv (.t 0)⟩,
     ⟨(some 5), none, .callm 118 (.t 4) []⟩,
     ⟨(some 3), none, .alloc [.n 2, .n 3, .n 2, .n 1, .r (.v (.int .i64 0))]⟩,
     ⟨none, none, .st 5 (.t 3) (.t 5)⟩] [0, 2, 3])
  (.seq (.seq (.reg none [⟨(some 6), none, .mv (.t 0)⟩,
      ⟨(some 7), none, .callm 101 (.t 6) [(.k (V.i 12))]⟩] [0, 2, 3, 7])
   (.block 0 (.seq (.reg none [⟨(some 9), none, .bin .eql .i (.t 7) (.k (V.i 0))⟩,
       ⟨(some 8), none, .mv (.t 9)⟩] [0, 2, 3, 7, 8])
    (.cond (.t 8)
     (.reg (some [[], [0], [], [], [3], [3, 4], [2, 3, 4, 5], [], [], [2, 3, 4, 5, 6, 7, 8], [], [], [11], [11, 12], [11, 12, 13], [2, 3, 4, 5, 6, 7, 8, 9, 10, 11, 12, 13, 14], [2, 3, 4, 5, 6, 7, 8, 9, 10, 11, 12, 13, 14, 15], [0, 1, 2, 3, 4, 5, 6, 7, 8, 9, 10, 11, 12, 13, 14, 15, 16], [0, 1, 2, 3, 4, 5, 6, 7, 8, 9, 10, 11, 12, 13, 14, 15, 16, 17]]) [⟨(some 10), none, .fa 0 (.t 3)⟩,
        ⟨(some 11), none, .ld false 1 (.t 10)⟩,
        ⟨(some 12), none, .mv (.t 0)⟩,
        ⟨(some 13), none, .fa 0 (.t 3)⟩,
        ⟨(some 14), none, .ld false 1 (.t 13)⟩,
        ⟨(some 15), none, .len false (.t 14)⟩,
        ⟨(some 16), none, .callm 101 (.t 12) [(.t 15)]⟩,
        ⟨(some 17), none, .mv (.t 0)⟩,
        ⟨(some 18), none, .bslr 1 [(.k (V.i 0)), (.k (V.i 1)), (.k (V.i 9999)), (.k (V.i 10000))]⟩,
        ⟨(some 19), none, .callm 93 (.t 17) [(.t 18)]⟩,
        ⟨(some 20), none, .mv (.t 0)⟩,
        ⟨(some 21), none, .fa 3 (.t 3)⟩,
        ⟨(some 22), none, .ld false 1 (.t 21)⟩,
        ⟨(some 23), none, .len false (.t 22)⟩,
        ⟨(some 24), none, .bslr 1 [(.k (V.i 0)), (.k (V.i (-1))), (.t 23)]⟩,
        ⟨(some 25), none, .callm 93 (.t 20) [(.t 24)]⟩,
        ⟨(some 26), none, .bld [.r (.v (.int .i64 0)), .r (.v (.int .i64 0))] [(0, 1, (.t 19)), (1, 1, (.t 25))]⟩,
        ⟨(some 27), none, .ia 2 (.t 11) (.t 16)⟩,
        ⟨none, none, .st 2 (.t 27) (.t 26)⟩] [2, 3])
     (.seq (.reg none [⟨(some 29), none, .bin .eql .i (.t 7) (.k (V.i 1))⟩,
         ⟨(some 28), none, .mv (.t 29)⟩] [0, 2, 3, 7, 28])
      (.cond (.t 28)
       (.reg (some [[], [0], [], [], [3], [3, 4], [2, 3, 4, 5], [], [], [8], [8, 9], [8, 9, 10], [2, 3, 4, 5, 6, 7, 8, 9, 10, 11], [0, 1, 2, 3, 4, 5, 6, 7, 8, 9, 10, 11, 12], [0, 1, 2, 3, 4, 5, 6, 7, 8, 9, 10, 11, 12, 13], [0, 1, 2, 3, 4, 5, 6, 7, 8, 9, 10, 11, 12, 13, 14]]) [⟨(some 30), none, .fa 1 (.t 3)⟩,
          ⟨(some 31), none, .ld false 1 (.t 30)⟩,
          ⟨(some 32), none, .mv (.t 0)⟩,
          ⟨(some 33), none, .fa 1 (.t 3)⟩,
          ⟨(some 34), none, .ld false 1 (.t 33)⟩,
          ⟨(some 35), none, .len false (.t 34)⟩,
          ⟨(some 36), none, .callm 101 (.t 32) [(.t 35)]⟩,
          ⟨(some 37), none, .mv (.t 0)⟩,
          ⟨(some 38), none, .fa 0 (.t 3)⟩,
          ⟨(some 39), none, .ld false 1 (.t 38)⟩,
          ⟨(some 40), none, .len false (.t 39)⟩,
          ⟨(some 41), none, .bslr 1 [(.k (V.i (-1))), (.k (V.i 0)), (.t 40)]⟩,
          ⟨(some 42), none, .callm 93 (.t 37) [(.t 41)]⟩,
          ⟨(some 43), none, .ia 3 (.t 31) (.t 36)⟩,
          ⟨(some 44), none, .fa 0 (.t 43)⟩,
          ⟨none, none, .st 1 (.t 44) (.t 42)⟩] [2, 3])
       (.seq (.reg none [⟨(some 46), none, .bin .eql .i (.t 7) (.k (V.i 2))⟩,
           ⟨(some 45), none, .mv (.t 46)⟩] [0, 2, 3, 7, 45])
        (.cond (.t 45)
         (.reg (some [[], [0], [], [], [3], [3, 4], [2, 3, 4, 5], [], [], [2, 3, 4, 5, 6, 7, 8], [0, 1, 2, 3, 4, 5, 6, 7, 8, 9], [0, 1, 2, 3, 4, 5, 6, 7, 8, 9, 10], [0, 1, 2, 3, 4, 5, 6, 7, 8, 9, 10, 11]]) [⟨(some 47), none, .fa 1 (.t 3)⟩,
            ⟨(some 48), none, .ld false 1 (.t 47)⟩,
            ⟨(some 49), none, .mv (.t 0)⟩,
            ⟨(some 50), none, .fa 1 (.t 3)⟩,
            ⟨(some 51), none, .ld false 1 (.t 50)⟩,
            ⟨(some 52), none, .len false (.t 51)⟩,
            ⟨(some 53), none, .callm 101 (.t 49) [(.t 52)]⟩,
            ⟨(some 54), none, .mv (.t 0)⟩,
            ⟨(some 55), none, .bslr 1 [(.k (V.i 0)), (.k (V.i 1)), (.k (V.i 20)), (.k (V.i 21))]⟩,
            ⟨(some 56), none, .callm 93 (.t 54) [(.t 55)]⟩,
            ⟨(some 57), none, .ia 3 (.t 48) (.t 53)⟩,
            ⟨(some 58), none, .fa 1 (.t 57)⟩,
            ⟨none, none, .st 1 (.t 58) (.t 56)⟩] [2, 3])
         (.seq (.reg none [⟨(some 60), none, .bin .eql .i (.t 7) (.k (V.i 3))⟩,
             ⟨(some 59), none, .mv (.t 60)⟩] [0, 2, 3, 7, 59])
          (.cond (.t 59)
           (.reg (some [[], [0], [], [], [3], [3, 4], [2, 3, 4, 5], [], [], [8], [8, 9], [8, 9, 10], [2, 3, 4, 5, 6, 7, 8, 9, 10, 11], [0, 1, 2, 3, 4, 5, 6, 7, 8, 9, 10, 11, 12], [0, 1, 2, 3, 4, 5, 6, 7, 8, 9, 10, 11, 12, 13], [0, 1, 2, 3, 4, 5, 6, 7, 8, 9, 10, 11, 12, 13, 14]]) [⟨(some 61), none, .fa 2 (.t 3)⟩,
              ⟨(some 62), none, .ld false 1 (.t 61)⟩,
              ⟨(some 63), none, .mv (.t 0)⟩,
              ⟨(some 64), none, .fa 2 (.t 3)⟩,
              ⟨(some 65), none, .ld false 1 (.t 64)⟩,
              ⟨(some 66), none, .len false (.t 65)⟩,
              ⟨(some 67), none, .callm 101 (.t 63) [(.t 66)]⟩,
              ⟨(some 68), none, .mv (.t 0)⟩,
              ⟨(some 69), none, .fa 0 (.t 3)⟩,
              ⟨(some 70), none, .ld false 1 (.t 69)⟩,
              ⟨(some 71), none, .len false (.t 70)⟩,
              ⟨(some 72), none, .bslr 1 [(.k (V.i (-1))), (.k (V.i 0)), (.t 71)]⟩,
              ⟨(some 73), none, .callm 93 (.t 68) [(.t 72)]⟩,
              ⟨(some 74), none, .ia 2 (.t 62) (.t 67)⟩,
              ⟨(some 75), none, .fa 0 (.t 74)⟩,
              ⟨none, none, .st 1 (.t 75) (.t 73)⟩] [2, 3])
           (.seq (.reg none [⟨(some 77), none, .bin .eql .i (.t 7) (.k (V.i 4))⟩,
               ⟨(some 76), none, .mv (.t 77)⟩] [0, 2, 3, 7, 76])
            (.cond (.t 76)
             (.reg (some [[], [0], [], [], [3], [3, 4], [2, 3, 4, 5], [], [], [8], [8, 9], [8, 9, 10], [2, 3, 4, 5, 6, 7, 8, 9, 10, 11], [0, 1, 2, 3, 4, 5, 6, 7, 8, 9, 10, 11, 12], [0, 1, 2, 3, 4, 5, 6, 7, 8, 9, 10, 11, 12, 13]]) [⟨(some 78), none, .fa 3 (.t 3)⟩,
                ⟨(some 79), none, .ld false 1 (.t 78)⟩,
                ⟨(some 80), none, .mv (.t 0)⟩,
                ⟨(some 81), none, .fa 3 (.t 3)⟩,
                ⟨(some 82), none, .ld false 1 (.t 81)⟩,
                ⟨(some 83), none, .len false (.t 82)⟩,
                ⟨(some 84), none, .callm 101 (.t 80) [(.t 83)]⟩,
                ⟨(some 85), none, .mv (.t 0)⟩,
                ⟨(some 86), none, .fa 1 (.t 3)⟩,
                ⟨(some 87), none, .ld false 1 (.t 86)⟩,
                ⟨(some 88), none, .len false (.t 87)⟩,
                ⟨(some 89), none, .bslr 1 [(.k (V.i (-1))), (.k (V.i 0)), (.t 88)]⟩,
                ⟨(some 90), none, .callm 93 (.t 85) [(.t 89)]⟩,
                ⟨(some 91), none, .ia 1 (.t 79) (.t 84)⟩,
                ⟨none, none, .st 1 (.t 91) (.t 90)⟩] [2, 3])
             (.seq (.reg none [⟨(some 93), none, .bin .eql .i (.t 7) (.k (V.i 5))⟩,
                 ⟨(some 92), none, .mv (.t 93)⟩] [0, 2, 3, 7, 92])
              (.cond (.t 92)
               (.reg none [⟨(some 94), none, .mv (.t 0)⟩,
                  ⟨(some 95), none, .bslr 1 [(.k (V.i (-1))), (.k (V.i 99999)), (.k (V.i 100000)), (.k (V.i 100001))]⟩,
                  ⟨(some 96), none, .callm 93 (.t 94) [(.t 95)]⟩,
                  ⟨(some 97), none, .fa 4 (.t 3)⟩,
                  ⟨none, none, .st 1 (.t 97) (.t 96)⟩] [2, 3])
               (.seq (.reg none [⟨(some 99), none, .bin .eql .i (.t 7) (.k (V.i 6))⟩,
                   ⟨(some 98), none, .mv (.t 99)⟩] [0, 2, 3, 7, 98])
                (.cond (.t 98)
                 (.gh (.ga (.reg (some [[], [0], [], [2], [2, 3], [2, 3, 4], [2, 3, 4, 5], [], [7], [7, 8], [7, 8, 9], [7, 8, 9, 10], [2, 3, 4, 5, 6, 7, 8, 9, 10, 11], [0, 1, 2, 3, 4, 5, 6, 7, 8, 9, 10, 11, 12], [0, 1, 2, 3, 4, 5, 6, 7, 8, 9, 10, 11, 12, 13], [0, 1, 2, 3, 4, 5, 6, 7, 8, 9, 10, 11, 12, 13, 14]]) [⟨(some 100), none, .fa 2 (.t 3)⟩,
                     ⟨(some 101), none, .ld false 1 (.t 100)⟩,
                     ⟨(some 102), none, .fa 2 (.t 3)⟩,
                     ⟨(some 103), none, .ld false 1 (.t 102)⟩,
                     ⟨(some 104), none, .ia 2 (.t 103) (.k (V.i 0))⟩,
                     ⟨(some 105), none, .fa 1 (.t 104)⟩,
                     ⟨(some 106), none, .ld false 1 (.t 105)⟩,
                     ⟨(some 107), none, .mv (.t 0)⟩,
                     ⟨(some 108), none, .callm 101 (.t 107) [(.k (V.i 3))]⟩,
                     ⟨(some 109), none, .bin .add .i (.k (V.i 1)) (.t 108)⟩,
                     ⟨(some 110), none, .bld [.r (.v (.int .i64 0)), .r (.v (.int .i64 0))] [(0, 1, (.t 109))]⟩,
                     ⟨(some 111), none, .bsl 2 [(.t 110)]⟩,
                     ⟨(some 112), none, .app 2 16 true (.t 106) (.t 111)⟩,
                     ⟨(some 113), none, .ia 2 (.t 101) (.k (V.i 0))⟩,
                     ⟨(some 114), none, .fa 1 (.t 113)⟩,
                     ⟨none, none, .st 1 (.t 114) (.t 112)⟩] [2, 3])))
                 (.seq (.reg none [⟨(some 116), none, .bin .eql .i (.t 7) (.k (V.i 7))⟩,
                     ⟨(some 115), none, .mv (.t 116)⟩] [2, 3, 115])
                  (.cond (.t 115)
                   (.reg none [⟨(some 117), none, .fa 2 (.t 3)⟩,
                      ⟨(some 118), none, .ld false 1 (.t 117)⟩,
                      ⟨(some 119), none, .cut 2 (.t 118)⟩,
                      ⟨(some 120), none, .fa 2 (.t 3)⟩,
                      ⟨none, none, .st 1 (.t 120) (.t 119)⟩] [2, 3])
                   (.skip)))))))))))))))))))
  (.seq (.reg none [⟨(some 121), none, .ld true 5 (.t 3)⟩,
     ⟨none, none, .st 5 (.t 2) (.t 121)⟩] [2])
  (.ret))))
def rv92 : List RV := [.c 2 true 5]
open Go.Proofs Go.IntWalk
set_option linter.unusedVariables false
set_option maxRecDepth 100000
set_option maxHeartbeats 4000000
def S_l7Any (g : G) (t : TE) (a0 : Cur) : Option (Centre × Cur) :=
  cl (S_l7Draw g t a0) fun x1 =>
  cl (S_l1Below g t (Cur.mk x1.2.b x1.2.i x1.2.h) 12) fun x2 =>
  br (g.eq x2.1 0)
  (
   cl (S_l1Below g t (Cur.mk x2.2.b x2.2.i x2.2.h) (g.int (g.dlen (t.d_Item x1.1.Belt)))) fun x3 =>
   lP ([0, 1, 9999, 10000]) fun (l1 : List Int) =>
   cl (S_l1Int g t (Cur.mk x3.2.b x3.2.i x3.2.h) l1) fun x4 =>
   lP ([0, (-1), (g.int (g.dlen (t.d_I64 x1.1.Plan)))]) fun (l2 : List Int) =>
   cl (S_l1Int g t (Cur.mk x4.2.b x4.2.i x4.2.h) l2) fun x5 =>
   gd (((0 : Int) ≤ x3.1 ∧ x3.1 < (((g.dlen (t.d_Item x1.1.Belt)) : Nat) : Int))) <|
   gt x1.1.Belt (g.nat x3.1) fun x6 =>
   lP (List.set x1.1.Belt (g.nat x3.1) (Item.mk x4.1 x5.1)) fun (l3 : List Item) =>
   some (((Centre.mk l3 x1.1.Chutes x1.1.Inlets x1.1.Plan x1.1.Now), (Cur.mk x5.2.b x5.2.i x5.2.h))))
  (
   br (g.eq x2.1 1)
   (
    cl (S_l1Below g t (Cur.mk x2.2.b x2.2.i x2.2.h) (g.int (g.dlen (t.d_Chute x1.1.Chutes)))) fun x7 =>
    lP ([(-1), 0, (g.int (g.dlen (t.d_Item x1.1.Belt)))]) fun (l4 : List Int) =>
    cl (S_l1Int g t (Cur.mk x7.2.b x7.2.i x7.2.h) l4) fun x8 =>
    gd (((0 : Int) ≤ x7.1 ∧ x7.1 < (((g.dlen (t.d_Chute x1.1.Chutes)) : Nat) : Int))) <|
    gt x1.1.Chutes (g.nat x7.1) fun x9 =>
    lP (List.set x1.1.Chutes (g.nat x7.1) (Chute.mk x8.1 x9.Room x9.Held)) fun (l5 : List Chute) =>
    some (((Centre.mk x1.1.Belt l5 x1.1.Inlets x1.1.Plan x1.1.Now), (Cur.mk x8.2.b x8.2.i x8.2.h))))
   (
    br (g.eq x2.1 2)
    (
     cl (S_l1Below g t (Cur.mk x2.2.b x2.2.i x2.2.h) (g.int (g.dlen (t.d_Chute x1.1.Chutes)))) fun x10 =>
     lP ([0, 1, 20, 21]) fun (l6 : List Int) =>
     cl (S_l1Int g t (Cur.mk x10.2.b x10.2.i x10.2.h) l6) fun x11 =>
     gd (((0 : Int) ≤ x10.1 ∧ x10.1 < (((g.dlen (t.d_Chute x1.1.Chutes)) : Nat) : Int))) <|
     gt x1.1.Chutes (g.nat x10.1) fun x12 =>
     lP (List.set x1.1.Chutes (g.nat x10.1) (Chute.mk x12.Cell x11.1 x12.Held)) fun (l7 : List Chute) =>
     some (((Centre.mk x1.1.Belt l7 x1.1.Inlets x1.1.Plan x1.1.Now), (Cur.mk x11.2.b x11.2.i x11.2.h))))
    (
     br (g.eq x2.1 3)
     (
      cl (S_l1Below g t (Cur.mk x2.2.b x2.2.i x2.2.h) (g.int (g.dlen (t.d_Inlet x1.1.Inlets)))) fun x13 =>
      lP ([(-1), 0, (g.int (g.dlen (t.d_Item x1.1.Belt)))]) fun (l8 : List Int) =>
      cl (S_l1Int g t (Cur.mk x13.2.b x13.2.i x13.2.h) l8) fun x14 =>
      gd (((0 : Int) ≤ x13.1 ∧ x13.1 < (((g.dlen (t.d_Inlet x1.1.Inlets)) : Nat) : Int))) <|
      gt x1.1.Inlets (g.nat x13.1) fun x15 =>
      lP (List.set x1.1.Inlets (g.nat x13.1) (Inlet.mk x14.1 x15.Wait)) fun (l9 : List Inlet) =>
      some (((Centre.mk x1.1.Belt x1.1.Chutes l9 x1.1.Plan x1.1.Now), (Cur.mk x14.2.b x14.2.i x14.2.h))))
     (
      br (g.eq x2.1 4)
      (
       cl (S_l1Below g t (Cur.mk x2.2.b x2.2.i x2.2.h) (g.int (g.dlen (t.d_I64 x1.1.Plan)))) fun x16 =>
       lP ([(-1), 0, (g.int (g.dlen (t.d_Chute x1.1.Chutes)))]) fun (l10 : List Int) =>
       cl (S_l1Int g t (Cur.mk x16.2.b x16.2.i x16.2.h) l10) fun x17 =>
       gd (((0 : Int) ≤ x16.1 ∧ x16.1 < (((g.dlen (t.d_I64 x1.1.Plan)) : Nat) : Int))) <|
       gt x1.1.Plan (g.nat x16.1) fun x18 =>
       lP (List.set x1.1.Plan (g.nat x16.1) x17.1) fun (l11 : List Int) =>
       some (((Centre.mk x1.1.Belt x1.1.Chutes x1.1.Inlets l11 x1.1.Now), (Cur.mk x17.2.b x17.2.i x17.2.h))))
      (
       br (g.eq x2.1 5)
       (
        lP ([(-1), 99999, 100000, 100001]) fun (l12 : List Int) =>
        cl (S_l1Int g t (Cur.mk x2.2.b x2.2.i x2.2.h) l12) fun x19 =>
        some (((Centre.mk x1.1.Belt x1.1.Chutes x1.1.Inlets x1.1.Plan x19.1), (Cur.mk x19.2.b x19.2.i x19.2.h))))
       (
        br (g.eq x2.1 6)
        (
         gt x1.1.Inlets (g.nat 0) fun x20 =>
         gd (((0 : Int) ≤ 0 ∧ 0 < (((g.dlen (t.d_Inlet x1.1.Inlets)) : Nat) : Int))) <|
         cl (S_l1Below g t (Cur.mk x2.2.b x2.2.i x2.2.h) 3) fun x21 =>
         lP ([(Item.mk (g.wrap .i64 (g.add 1 x21.1)) 0)]) fun (l13 : List Item) =>
         gd (((x20.Wait.length + l13.length) * 16 ≤ 70368744177664)) <|
         lP (x20.Wait ++ l13) fun (l14 : List Item) =>
         gd (((0 : Int) ≤ 0 ∧ 0 < (((g.dlen (t.d_Inlet x1.1.Inlets)) : Nat) : Int))) <|
         lP (List.set x1.1.Inlets (g.nat 0) (Inlet.mk x20.Cell l14)) fun (l15 : List Inlet) =>
         some (((Centre.mk x1.1.Belt x1.1.Chutes l15 x1.1.Plan x1.1.Now), (Cur.mk x21.2.b x21.2.i x21.2.h))))
        (
         br (g.eq x2.1 7)
         (
          lP [] fun (l16 : List Inlet) =>
          some (((Centre.mk x1.1.Belt x1.1.Chutes l16 x1.1.Plan x1.1.Now), (Cur.mk x2.2.b x2.2.i x2.2.h))))
         (
          some (((Centre.mk x1.1.Belt x1.1.Chutes x1.1.Inlets x1.1.Plan x1.1.Now), (Cur.mk x2.2.b x2.2.i x2.2.h)))))))))))
theorem fit92 : codeFit Try.prog Try.f92.ntmps (Try.f92.body.getD .skip) ir92 = true := by kernel_rfl
theorem c_S_l7Any {g : G} {t : TE} {a0 : Cur} {r : Centre × Cur} (hg : g = G.real) (ht : t = TE.real) (h : S_l7Any g t a0 = some r) : FnM Try.prog 92 (.p (Cur.ds t a0)) [] (.g (Centre.ds t r.1)) (.p (Cur.ds t r.2)) := by
  obtain ⟨X, hX⟩ := hide (.g (Centre.ds t r.1) : X)
  obtain ⟨Y, hY⟩ := hide (.p (Cur.ds t r.2) : AM)
  rw [← hX, ← hY]
  refine fnM_of (rvs := rv92) (j := ir92) Try.func92 rfl fit92 (Nat.le_of_ble_eq_true rfl) (by kernel_rfl) prog_mixed ?_
  intro g2 F hg2 hF
  obtain rfl : g2 = g := hg2.unique.trans hg.symm
  clear hg2
  obtain ⟨wrap, lt, le, eq, quo, rem, band, bor, bxor, shl, shr, nat, int, add, sub, mul, cat, seq, slt, sub3, byte, llen, nadd, nsub, dlen, dapp, dset, drep, rd, rda, up, rsub, dsub, all, sle, slen, hasI, putI, hasS, putS, imin, imax, fzc⟩ := g2
  obtain ⟨r_Item, d_Item, r_Chute, d_Chute, r_Inlet, d_Inlet, r_I64, d_I64, r_U8, d_U8, d_InletF⟩ := t
  obtain ⟨a0_b, a0_i, a0_h⟩ := a0
  unfold S_l7Any at h
  try dsimp only at h
  cbv
  obtain ⟨x1, hx1, h⟩ := of_cl h
  obtain ⟨⟨x1_1_Belt, x1_1_Chutes, x1_1_Inlets, x1_1_Plan, x1_1_Now⟩, ⟨x1_2_b, x1_2_i, x1_2_h⟩⟩ := x1
  try dsimp only at h
  refine ACallM.mk _ _ _ _ rfl rfl (hF _ _ _ (c_S_l7Draw hg ht hx1)) rfl (Nat.le_of_ble_eq_true rfl) (Nat.le_of_ble_eq_true rfl) ?_
  cbv
  obtain ⟨x2, hx2, h⟩ := of_cl h
  obtain ⟨x2_1, ⟨x2_2_b, x2_2_i, x2_2_h⟩⟩ := x2
  try dsimp only at h
  refine ACallM.mk _ _ _ _ rfl rfl (hF _ _ _ (c_S_l1Below hg ht hx2)) rfl (Nat.le_of_ble_eq_true rfl) (Nat.le_of_ble_eq_true rfl) ?_
  cbv
  cases hb1 : (eq x2_1 0) with
  | true =>
    rw [br_true hb1] at h
    cbv
    obtain ⟨x3, hx3, h⟩ := of_cl h
    obtain ⟨x3_1, ⟨x3_2_b, x3_2_i, x3_2_h⟩⟩ := x3
    try dsimp only at h
    refine ACallM.mk _ _ _ _ rfl rfl (hF _ _ _ (c_S_l1Below hg ht hx3)) rfl (Nat.le_of_ble_eq_true rfl) (Nat.le_of_ble_eq_true rfl) ?_
    cbv
    obtain ⟨l1, hl1, h⟩ := of_lP h
    try dsimp only at h
    refine AVal.mk (r_I64 l1) (by rw [← hl1]; exact litr_I64 hg ht [0, 1, 9999, 10000]) ?_
    cbv
    obtain ⟨x4, hx4, h⟩ := of_cl h
    obtain ⟨x4_1, ⟨x4_2_b, x4_2_i, x4_2_h⟩⟩ := x4
    try dsimp only at h
    refine ACallM.mk _ _ _ _ rfl rfl (hF _ _ _ (c_S_l1Int hg ht hx4)) rfl (Nat.le_of_ble_eq_true rfl) (Nat.le_of_ble_eq_true rfl) ?_
    cbv
    obtain ⟨l2, hl2, h⟩ := of_lP h
    try dsimp only at h
    refine AVal.mk (r_I64 l2) (by rw [← hl2]; exact litr_I64 hg ht [0, (-1), (int (dlen (d_I64 x1_1_Plan)))]) ?_
    cbv
    obtain ⟨x5, hx5, h⟩ := of_cl h
    obtain ⟨x5_1, ⟨x5_2_b, x5_2_i, x5_2_h⟩⟩ := x5
    try dsimp only at h
    refine ACallM.mk _ _ _ _ rfl rfl (hF _ _ _ (c_S_l1Int hg ht hx5)) rfl (Nat.le_of_ble_eq_true rfl) (Nat.le_of_ble_eq_true rfl) ?_
    cbv
    obtain ⟨hc1, h⟩ := of_gd h
    refine AStep.mk hc1 ?_
    cbv
    obtain ⟨x6, hx6, h⟩ := of_gt h
    obtain ⟨x6_Id, x6_Dest⟩ := x6
    try dsimp only at h
    refine AGet.mk _ (d_get_Item hg ht hx6) ?_
    cbv
    obtain ⟨l3, hl3, h⟩ := of_lP h
    try dsimp only at h
    refine ANew.mk (d_Item l3) _ (by rw [← hl3]; exact dset_Item hg ht _ _ (Item.mk x4_1 x5_1)) rfl ?_
    have hnl3 : (dlen (d_Item x1_1_Belt)) = (d_Item l3).length := (by rw [← hl3, dsetl_Item ht]; exact (dlen_Item hg ht _))
    cbv
    obtain rfl := Option.some.inj h
    exact ARetM.mk ⟨⟨rfl, hnl3⟩, ⟨⟨rfl, (dlen_Chute hg ht _)⟩, ⟨⟨rfl, (dlen_Inlet hg ht _)⟩, ⟨rfl, (dlen_I64 hg ht _)⟩⟩⟩⟩ hX.symm hY.symm
  | false =>
    rw [br_false hb1] at h
    cbv
    cases hb2 : (eq x2_1 1) with
    | true =>
      rw [br_true hb2] at h
      cbv
      obtain ⟨x7, hx7, h⟩ := of_cl h
      obtain ⟨x7_1, ⟨x7_2_b, x7_2_i, x7_2_h⟩⟩ := x7
      try dsimp only at h
      refine ACallM.mk _ _ _ _ rfl rfl (hF _ _ _ (c_S_l1Below hg ht hx7)) rfl (Nat.le_of_ble_eq_true rfl) (Nat.le_of_ble_eq_true rfl) ?_
      cbv
      obtain ⟨l4, hl4, h⟩ := of_lP h
      try dsimp only at h
      refine AVal.mk (r_I64 l4) (by rw [← hl4]; exact litr_I64 hg ht [(-1), 0, (int (dlen (d_Item x1_1_Belt)))]) ?_
      cbv
      obtain ⟨x8, hx8, h⟩ := of_cl h
      obtain ⟨x8_1, ⟨x8_2_b, x8_2_i, x8_2_h⟩⟩ := x8
      try dsimp only at h
      refine ACallM.mk _ _ _ _ rfl rfl (hF _ _ _ (c_S_l1Int hg ht hx8)) rfl (Nat.le_of_ble_eq_true rfl) (Nat.le_of_ble_eq_true rfl) ?_
      cbv
      obtain ⟨hc2, h⟩ := of_gd h
      refine AStep.mk hc2 ?_
      cbv
      obtain ⟨x9, hx9, h⟩ := of_gt h
      obtain ⟨x9_Cell, x9_Room, x9_Held⟩ := x9
      try dsimp only at h
      refine AGet.mk _ (d_get_Chute hg ht hx9) ?_
      cbv
      obtain ⟨l5, hl5, h⟩ := of_lP h
      try dsimp only at h
      refine ANew.mk (d_Chute l5) _ (by rw [← hl5]; exact dset_Chute hg ht _ _ (Chute.mk x8_1 x9_Room x9_Held)) rfl ?_
      have hnl5 : (dlen (d_Chute x1_1_Chutes)) = (d_Chute l5).length := (by rw [← hl5, dsetl_Chute ht]; exact (dlen_Chute hg ht _))
      cbv
      obtain rfl := Option.some.inj h
      exact ARetM.mk ⟨⟨rfl, (dlen_Item hg ht _)⟩, ⟨⟨rfl, hnl5⟩, ⟨⟨rfl, (dlen_Inlet hg ht _)⟩, ⟨rfl, (dlen_I64 hg ht _)⟩⟩⟩⟩ hX.symm hY.symm
    | false =>
      rw [br_false hb2] at h
      cbv
      cases hb3 : (eq x2_1 2) with
      | true =>
        rw [br_true hb3] at h
        cbv
        obtain ⟨x10, hx10, h⟩ := of_cl h
        obtain ⟨x10_1, ⟨x10_2_b, x10_2_i, x10_2_h⟩⟩ := x10
        try dsimp only at h
        refine ACallM.mk _ _ _ _ rfl rfl (hF _ _ _ (c_S_l1Below hg ht hx10)) rfl (Nat.le_of_ble_eq_true rfl) (Nat.le_of_ble_eq_true rfl) ?_
        cbv
        obtain ⟨l6, hl6, h⟩ := of_lP h
        try dsimp only at h
        refine AVal.mk (r_I64 l6) (by rw [← hl6]; exact litr_I64 hg ht [0, 1, 20, 21]) ?_
        cbv
        obtain ⟨x11, hx11, h⟩ := of_cl h
        obtain ⟨x11_1, ⟨x11_2_b, x11_2_i, x11_2_h⟩⟩ := x11
        try dsimp only at h
        refine ACallM.mk _ _ _ _ rfl rfl (hF _ _ _ (c_S_l1Int hg ht hx11)) rfl (Nat.le_of_ble_eq_true rfl) (Nat.le_of_ble_eq_true rfl) ?_
        cbv
        obtain ⟨hc3, h⟩ := of_gd h
        refine AStep.mk hc3 ?_
        cbv
        obtain ⟨x12, hx12, h⟩ := of_gt h
        obtain ⟨x12_Cell, x12_Room, x12_Held⟩ := x12
        try dsimp only at h
        refine AGet.mk _ (d_get_Chute hg ht hx12) ?_
        cbv
        obtain ⟨l7, hl7, h⟩ := of_lP h
        try dsimp only at h
        refine ANew.mk (d_Chute l7) _ (by rw [← hl7]; exact dset_Chute hg ht _ _ (Chute.mk x12_Cell x11_1 x12_Held)) rfl ?_
        have hnl7 : (dlen (d_Chute x1_1_Chutes)) = (d_Chute l7).length := (by rw [← hl7, dsetl_Chute ht]; exact (dlen_Chute hg ht _))
        cbv
        obtain rfl := Option.some.inj h
        exact ARetM.mk ⟨⟨rfl, (dlen_Item hg ht _)⟩, ⟨⟨rfl, hnl7⟩, ⟨⟨rfl, (dlen_Inlet hg ht _)⟩, ⟨rfl, (dlen_I64 hg ht _)⟩⟩⟩⟩ hX.symm hY.symm
      | false =>
        rw [br_false hb3] at h
        cbv
        cases hb4 : (eq x2_1 3) with
        | true =>
          rw [br_true hb4] at h
          cbv
          obtain ⟨x13, hx13, h⟩ := of_cl h
          obtain ⟨x13_1, ⟨x13_2_b, x13_2_i, x13_2_h⟩⟩ := x13
          try dsimp only at h
          refine ACallM.mk _ _ _ _ rfl rfl (hF _ _ _ (c_S_l1Below hg ht hx13)) rfl (Nat.le_of_ble_eq_true rfl) (Nat.le_of_ble_eq_true rfl) ?_
          cbv
          obtain ⟨l8, hl8, h⟩ := of_lP h
          try dsimp only at h
          refine AVal.mk (r_I64 l8) (by rw [← hl8]; exact litr_I64 hg ht [(-1), 0, (int (dlen (d_Item x1_1_Belt)))]) ?_
          cbv
          obtain ⟨x14, hx14, h⟩ := of_cl h
          obtain ⟨x14_1, ⟨x14_2_b, x14_2_i, x14_2_h⟩⟩ := x14
          try dsimp only at h
          refine ACallM.mk _ _ _ _ rfl rfl (hF _ _ _ (c_S_l1Int hg ht hx14)) rfl (Nat.le_of_ble_eq_true rfl) (Nat.le_of_ble_eq_true rfl) ?_
          cbv
          obtain ⟨hc4, h⟩ := of_gd h
          refine AStep.mk hc4 ?_
          cbv
          obtain ⟨x15, hx15, h⟩ := of_gt h
          obtain ⟨x15_Cell, x15_Wait⟩ := x15
          try dsimp only at h
          refine AGet.mk _ (d_get_Inlet hg ht hx15) ?_
          cbv
          obtain ⟨l9, hl9, h⟩ := of_lP h
          try dsimp only at h
          refine ANew.mk (d_Inlet l9) _ (by rw [← hl9]; exact dset_Inlet hg ht _ _ (Inlet.mk x14_1 x15_Wait)) rfl ?_
          have hnl9 : (dlen (d_Inlet x1_1_Inlets)) = (d_Inlet l9).length := (by rw [← hl9, dsetl_Inlet ht]; exact (dlen_Inlet hg ht _))
          cbv
          obtain rfl := Option.some.inj h
          exact ARetM.mk ⟨⟨rfl, (dlen_Item hg ht _)⟩, ⟨⟨rfl, (dlen_Chute hg ht _)⟩, ⟨⟨rfl, hnl9⟩, ⟨rfl, (dlen_I64 hg ht _)⟩⟩⟩⟩ hX.symm hY.symm
        | false =>
          rw [br_false hb4] at h
          cbv
          cases hb5 : (eq x2_1 4) with
          | true =>
            rw [br_true hb5] at h
            cbv
            obtain ⟨x16, hx16, h⟩ := of_cl h
            obtain ⟨x16_1, ⟨x16_2_b, x16_2_i, x16_2_h⟩⟩ := x16
            try dsimp only at h
            refine ACallM.mk _ _ _ _ rfl rfl (hF _ _ _ (c_S_l1Below hg ht hx16)) rfl (Nat.le_of_ble_eq_true rfl) (Nat.le_of_ble_eq_true rfl) ?_
            cbv
            obtain ⟨l10, hl10, h⟩ := of_lP h
            try dsimp only at h
            refine AVal.mk (r_I64 l10) (by rw [← hl10]; exact litr_I64 hg ht [(-1), 0, (int (dlen (d_Chute x1_1_Chutes)))]) ?_
            cbv
            obtain ⟨x17, hx17, h⟩ := of_cl h
            obtain ⟨x17_1, ⟨x17_2_b, x17_2_i, x17_2_h⟩⟩ := x17
            try dsimp only at h
            refine ACallM.mk _ _ _ _ rfl rfl (hF _ _ _ (c_S_l1Int hg ht hx17)) rfl (Nat.le_of_ble_eq_true rfl) (Nat.le_of_ble_eq_true rfl) ?_
            cbv
            obtain ⟨hc5, h⟩ := of_gd h
            refine AStep.mk hc5 ?_
            cbv
            obtain ⟨x18, hx18, h⟩ := of_gt h
            try dsimp only at h
            refine AGet.mk _ (d_get_I64 hg ht hx18) ?_
            cbv
            obtain ⟨l11, hl11, h⟩ := of_lP h
            try dsimp only at h
            refine ANew.mk (d_I64 l11) _ (by rw [← hl11]; exact dset_I64 hg ht _ _ x17_1) rfl ?_
            have hnl11 : (dlen (d_I64 x1_1_Plan)) = (d_I64 l11).length := (by rw [← hl11, dsetl_I64 ht]; exact (dlen_I64 hg ht _))
            cbv
            obtain rfl := Option.some.inj h
            exact ARetM.mk ⟨⟨rfl, (dlen_Item hg ht _)⟩, ⟨⟨rfl, (dlen_Chute hg ht _)⟩, ⟨⟨rfl, (dlen_Inlet hg ht _)⟩, ⟨rfl, hnl11⟩⟩⟩⟩ hX.symm hY.symm
          | false =>
            rw [br_false hb5] at h
            cbv
            cases hb6 : (eq x2_1 5) with
            | true =>
              rw [br_true hb6] at h
              cbv
              obtain ⟨l12, hl12, h⟩ := of_lP h
              try dsimp only at h
              refine AVal.mk (r_I64 l12) (by rw [← hl12]; exact litr_I64 hg ht [(-1), 99999, 100000, 100001]) ?_
              cbv
              obtain ⟨x19, hx19, h⟩ := of_cl h
              obtain ⟨x19_1, ⟨x19_2_b, x19_2_i, x19_2_h⟩⟩ := x19
              try dsimp only at h
              refine ACallM.mk _ _ _ _ rfl rfl (hF _ _ _ (c_S_l1Int hg ht hx19)) rfl (Nat.le_of_ble_eq_true rfl) (Nat.le_of_ble_eq_true rfl) ?_
              cbv
              obtain rfl := Option.some.inj h
              exact ARetM.mk ⟨⟨rfl, (dlen_Item hg ht _)⟩, ⟨⟨rfl, (dlen_Chute hg ht _)⟩, ⟨⟨rfl, (dlen_Inlet hg ht _)⟩, ⟨rfl, (dlen_I64 hg ht _)⟩⟩⟩⟩ hX.symm hY.symm
            | false =>
              rw [br_false hb6] at h
              cbv
              cases hb7 : (eq x2_1 6) with
              | true =>
                rw [br_true hb7] at h
                cbv
                obtain ⟨x20, hx20, h⟩ := of_gt h
                obtain ⟨x20_Cell, x20_Wait⟩ := x20
                try dsimp only at h
                refine AGh.opn 38 2 (nat 0) (d_Inlet x1_1_Inlets) _ rfl (d_get_Inlet hg ht hx20) rfl ?_
                cbv
                refine AGh.nil ?_
                cbv
                obtain ⟨hc6, h⟩ := of_gd h
                refine AStep.mk hc6 ?_
                cbv
                refine AStep.mk rfl ?_
                cbv
                obtain ⟨x21, hx21, h⟩ := of_cl h
                obtain ⟨x21_1, ⟨x21_2_b, x21_2_i, x21_2_h⟩⟩ := x21
                try dsimp only at h
                refine ACallM.mk _ _ _ _ rfl rfl (hF _ _ _ (c_S_l1Below hg ht hx21)) rfl (Nat.le_of_ble_eq_true rfl) (Nat.le_of_ble_eq_true rfl) ?_
                cbv
                obtain ⟨l13, hl13, h⟩ := of_lP h
                try dsimp only at h
                refine ANew.mk (d_Item l13) (dlen (d_Item l13)) (by rw [← hl13]; exact lit_Item hg ht [(Item.mk (wrap .i64 (add 1 x21_1)) 0)]) (by rw [← hl13]; exact litn_Item hg ht [(Item.mk (wrap .i64 (add 1 x21_1)) 0)]) ?_
                cbv
                obtain ⟨hc8, h⟩ := of_gd h
                refine AStep.mk ⟨⟨rfl, (dlen_Item hg ht _)⟩, (app_ok_Item hg ht (dlen_Item hg ht _) rfl hc8)⟩ ?_
                cbv
                obtain ⟨l14, hl14, h⟩ := of_lP h
                try dsimp only at h
                refine ANew.mk (d_Item l14) (dlen (d_Item l14)) (by rw [← hl14]; exact app_Item hg ht (dlen_Item hg ht _) rfl) (by rw [← hl14]; exact appl_Item hg ht (dlen_Item hg ht _) rfl) ?_
                cbv
                obtain ⟨hc7, h⟩ := of_gd h
                refine AStep.mk hc7 ?_
                cbv
                refine AStep.mk rfl ?_
                cbv
                obtain ⟨l15, hl15, h⟩ := of_lP h
                try dsimp only at h
                refine AGh.cls 38 2 (nat 0) (d_Inlet x1_1_Inlets) _ _ _ _ (d_Inlet l15) rfl rfl ⟨rfl, (dlen_Item hg ht _)⟩ (by rw [← hl15]; exact dset_Inlet hg ht _ _ (Inlet.mk x20_Cell l14)) ?_
                have hnl15 : (dlen (d_Inlet x1_1_Inlets)) = (d_Inlet l15).length := (by rw [← hl15, dsetl_Inlet ht]; exact (dlen_Inlet hg ht _))
                cbv
                refine AGh.nil ?_
                cbv
                obtain rfl := Option.some.inj h
                exact ARetM.mk ⟨⟨rfl, (dlen_Item hg ht _)⟩, ⟨⟨rfl, (dlen_Chute hg ht _)⟩, ⟨⟨rfl, hnl15⟩, ⟨rfl, (dlen_I64 hg ht _)⟩⟩⟩⟩ hX.symm hY.symm
              | false =>
                rw [br_false hb7] at h
                cbv
                cases hb8 : (eq x2_1 7) with
                | true =>
                  rw [br_true hb8] at h
                  cbv
                  obtain ⟨l16, hl16, h⟩ := of_lP h
                  try dsimp only at h
                  refine ANew.mk (d_Inlet l16) (dlen (d_Inlet l16)) (by rw [← hl16]; exact lit_Inlet hg ht []) (by rw [← hl16]; exact litn_Inlet hg ht []) ?_
                  cbv
                  obtain rfl := Option.some.inj h
                  exact ARetM.mk ⟨⟨rfl, (dlen_Item hg ht _)⟩, ⟨⟨rfl, (dlen_Chute hg ht _)⟩, ⟨⟨rfl, (dlen_Inlet hg ht _)⟩, ⟨rfl, (dlen_I64 hg ht _)⟩⟩⟩⟩ hX.symm hY.symm
                | false =>
                  rw [br_false hb8] at h
                  cbv
                  obtain rfl := Option.some.inj h
                  exact ARetM.mk ⟨⟨rfl, (dlen_Item hg ht _)⟩, ⟨⟨rfl, (dlen_Chute hg ht _)⟩, ⟨⟨rfl, (dlen_Inlet hg ht _)⟩, ⟨rfl, (dlen_I64 hg ht _)⟩⟩⟩⟩ hX.symm hY.symm
end Go.Vs
namespace Go.Vs
set_option maxRecDepth 100000
def ir34 : J :=
  .seq (.reg none [⟨(some 2), none, .alloc [.n 2, .n 3, .n 2, .n 1, .r (.v (.int .i64 0))]⟩,
     ⟨(some 3), none, .mv (.k (V.i 0))⟩] [0, 2])
  (.seq (.reg none [⟨(some 5), none, .mv (.t 0)⟩,
     ⟨(some 6), none, .call 91 true [(.t 5)]⟩,
     ⟨(some 4), none, .mv (.t 6)⟩] [2, 4])
  (.seq (.reg none [⟨(some 7), none, .mv (.t 4)⟩,
     ⟨(some 8), none, .callm 92 (.t 7) []⟩,
     ⟨(some 9), none, .mv (.t 4)⟩,
     ⟨(some 10), none, .bslr 1 [(.k (V.i 0)), (.k (V.i 1)), (.k (V.i 2)), (.k (V.i 3)), (.k (V.i 5)), (.k (V.i 9)), (.k (V.i 20)), (.k (V.i 60)), (.k (V.i (-1))), (.k (V.i 1000)), (.k (V.i 1001))]⟩,
     ⟨(some 11), none, .callm 93 (.t 9) [(.t 10)]⟩,
     ⟨none, none, .st 5 (.t 2) (.t 8)⟩,
     ⟨(some 3), none, .mv (.t 11)⟩] [2, 3])
  (.ret)))
def rv34 : List RV := [.c 2 true 5, .t 3]
open Go.Proofs Go.IntWalk
set_option linter.unusedVariables false
set_option maxRecDepth 100000
set_option maxHeartbeats 4000000
def S_DrawRunCentre (g : G) (t : TE) (a0 : List Int) : Option (Centre × Int) :=
  lP (S_l1New g t a0) fun x1 =>
  cl (S_l7Any g t x1) fun x2 =>
  lP ([0, 1, 2, 3, 5, 9, 20, 60, (-1), 1000, 1001]) fun (l1 : List Int) =>
  cl (S_l1Int g t (Cur.mk x2.2.b x2.2.i x2.2.h) l1) fun x3 =>
  some (((Centre.mk x2.1.Belt x2.1.Chutes x2.1.Inlets x2.1.Plan x2.1.Now), x3.1))
theorem fit34 : codeFit Try.prog Try.f34.ntmps (Try.f34.body.getD .skip) ir34 = true := by kernel_rfl
theorem c_S_DrawRunCentre {g : G} {t : TE} {a0 : List Int} {r : Centre × Int} (hg : g = G.real) (ht : t = TE.real) (h : S_DrawRunCentre g t a0 = some r) : Fn Try.prog 34 [.c (.s 1 (t.r_U8 a0))] (.u [.g (Centre.ds t r.1), .c (.r (.v (.int .i64 r.2)))]) := by
  obtain ⟨X, hX⟩ := hide (.u [.g (Centre.ds t r.1), .c (.r (.v (.int .i64 r.2)))] : X)
  rw [← hX]
  refine fn_of (rvs := rv34) (j := ir34) Try.func34 rfl fit34 (Nat.le_of_ble_eq_true rfl) (by kernel_rfl) prog_mixed ?_
  intro g2 F hg2 hF
  obtain rfl : g2 = g := hg2.unique.trans hg.symm
  clear hg2
  obtain ⟨wrap, lt, le, eq, quo, rem, band, bor, bxor, shl, shr, nat, int, add, sub, mul, cat, seq, slt, sub3, byte, llen, nadd, nsub, dlen, dapp, dset, drep, rd, rda, up, rsub, dsub, all, sle, slen, hasI, putI, hasS, putS, imin, imax, fzc⟩ := g2
  obtain ⟨r_Item, d_Item, r_Chute, d_Chute, r_Inlet, d_Inlet, r_I64, d_I64, r_U8, d_U8, d_InletF⟩ := t
  unfold S_DrawRunCentre at h
  try dsimp only at h
  cbv
  obtain ⟨x1, hx1, h⟩ := of_lP h
  obtain ⟨x1_b, x1_i, x1_h⟩ := x1
  try dsimp only at h
  refine ACall.mk _ _ rfl (hF _ _ _ (c_S_l1New hg ht hx1)) (.inl rfl) (Nat.le_of_ble_eq_true rfl) ?_
  cbv
  obtain ⟨x2, hx2, h⟩ := of_cl h
  obtain ⟨⟨x2_1_Belt, x2_1_Chutes, x2_1_Inlets, x2_1_Plan, x2_1_Now⟩, ⟨x2_2_b, x2_2_i, x2_2_h⟩⟩ := x2
  try dsimp only at h
  refine ACallM.mk _ _ _ _ rfl rfl (hF _ _ _ (c_S_l7Any hg ht hx2)) rfl (Nat.le_of_ble_eq_true rfl) (Nat.le_of_ble_eq_true rfl) ?_
  cbv
  obtain ⟨l1, hl1, h⟩ := of_lP h
  try dsimp only at h
  refine AVal.mk (r_I64 l1) (by rw [← hl1]; exact litr_I64 hg ht [0, 1, 2, 3, 5, 9, 20, 60, (-1), 1000, 1001]) ?_
  cbv
  obtain ⟨x3, hx3, h⟩ := of_cl h
  obtain ⟨x3_1, ⟨x3_2_b, x3_2_i, x3_2_h⟩⟩ := x3
  try dsimp only at h
  refine ACallM.mk _ _ _ _ rfl rfl (hF _ _ _ (c_S_l1Int hg ht hx3)) rfl (Nat.le_of_ble_eq_true rfl) (Nat.le_of_ble_eq_true rfl) ?_
  cbv
  obtain rfl := Option.some.inj h
  exact ARet.mk ⟨⟨rfl, (dlen_Item hg ht _)⟩, ⟨⟨rfl, (dlen_Chute hg ht _)⟩, ⟨⟨rfl, (dlen_Inlet hg ht _)⟩, ⟨rfl, (dlen_I64 hg ht _)⟩⟩⟩⟩ hX.symm
end Go.Vs
namespace Go.Vs
set_option maxRecDepth 100000
def ir109 : J :=
  .seq (.reg none [⟨(some 2), none, .mv (.k (.c (.n 2)))⟩] [0])
  (.seq (.reg none [⟨(some 3), none, .bsl 2 []⟩,
     ⟨(some 4), none, .mv (.t 0)⟩,
     ⟨(some 5), none, .app 2 16 false (.t 3) (.t 4)⟩,
     ⟨(some 2), none, .mv (.t 5)⟩] [2])
  (.ret))
def rv109 : List RV := [.t 2]
open Go.Proofs Go.IntWalk
set_option linter.unusedVariables false
set_option maxRecDepth 100000
set_option maxHeartbeats 4000000
def I_copyItems (g : G) (t : TE) (a0 : List Item) : Option (List Item) :=
  lP ([]) fun (l1 : List Item) =>
  gd (((l1.length + a0.length) * 16 ≤ 70368744177664)) <|
  lP (l1 ++ a0) fun (l2 : List Item) =>
  some l2
theorem fit109 : codeFit Try.prog Try.f109.ntmps (Try.f109.body.getD .skip) ir109 = true := by kernel_rfl
theorem c_I_copyItems {g : G} {t : TE} {a0 : List Item} {r : List Item} (hg : g = G.real) (ht : t = TE.real) (h : I_copyItems g t a0 = some r) : Fn Try.prog 109 [.c (.s 2 (t.r_Item a0))] (.c (.o 2 (t.d_Item r))) := by
  obtain ⟨X, hX⟩ := hide (.c (.o 2 (t.d_Item r)) : X)
  rw [← hX]
  refine fn_of (rvs := rv109) (j := ir109) Try.func109 rfl fit109 (Nat.le_of_ble_eq_true rfl) (by kernel_rfl) prog_mixed ?_
  intro g2 F hg2 hF
  obtain rfl : g2 = g := hg2.unique.trans hg.symm
  clear hg2
  obtain ⟨wrap, lt, le, eq, quo, rem, band, bor, bxor, shl, shr, nat, int, add, sub, mul, cat, seq, slt, sub3, byte, llen, nadd, nsub, dlen, dapp, dset, drep, rd, rda, up, rsub, dsub, all, sle, slen, hasI, putI, hasS, putS, imin, imax, fzc⟩ := g2
  obtain ⟨r_Item, d_Item, r_Chute, d_Chute, r_Inlet, d_Inlet, r_I64, d_I64, r_U8, d_U8, d_InletF⟩ := t
  unfold I_copyItems at h
  try dsimp only at h
  cbv
  obtain ⟨l1, hl1, h⟩ := of_lP h
  try dsimp only at h
  refine ANew.mk (d_Item l1) (dlen (d_Item l1)) (by rw [← hl1]; exact lit_Item hg ht []) (by rw [← hl1]; exact litn_Item hg ht []) ?_
  cbv
  obtain ⟨hc1, h⟩ := of_gd h
  refine AStep.mk (app_ok_Item hg ht (dlen_Item hg ht _) (up_Item hg ht _) hc1) ?_
  cbv
  obtain ⟨l2, hl2, h⟩ := of_lP h
  try dsimp only at h
  refine ANew.mk (d_Item l2) (dlen (d_Item l2)) (by rw [← hl2]; exact app_Item hg ht (dlen_Item hg ht _) (up_Item hg ht _)) (by rw [← hl2]; exact appl_Item hg ht (dlen_Item hg ht _) (up_Item hg ht _)) ?_
  cbv
  obtain rfl := Option.some.inj h
  exact ARet.mk ⟨rfl, (dlen_Item hg ht _)⟩ hX.symm
end Go.Vs
namespace Go.Vs
set_option maxRecDepth 100000
def ir94 : J :=
  .seq (.reg none [⟨(some 1), none, .box (.t 0)⟩,
     ⟨(some 2), none, .alloc [.n 2, .n 3, .n 2, .n 1, .r (.v (.int .i64 0))]⟩] [1, 2])
  (.seq (.reg (some [[], [0], [0, 1], [], [], [4], [0, 1, 2, 3, 4, 5], [], [7], [0, 1, 2, 3, 4, 5, 6, 7, 8], [], [0, 1, 2, 3, 4, 5, 6, 7, 8, 9, 10]]) [⟨(some 8), none, .fa 0 (.t 1)⟩,
     ⟨(some 9), none, .ld false 1 (.t 8)⟩,
     ⟨(some 10), none, .call 109 true [(.t 9)]⟩,
     ⟨(some 11), none, .bsl 1 []⟩,
     ⟨(some 12), none, .fa 3 (.t 1)⟩,
     ⟨(some 13), none, .ld false 1 (.t 12)⟩,
     ⟨(some 14), none, .app 1 8 false (.t 11) (.t 13)⟩,
     ⟨(some 15), none, .fa 4 (.t 1)⟩,
     ⟨(some 16), none, .ld false 1 (.t 15)⟩,
     ⟨(some 17), none, .bld [.n 2, .n 3, .n 2, .n 1, .r (.v (.int .i64 0))] [(0, 1, (.t 10)), (3, 1, (.t 14)), (4, 1, (.t 16))]⟩,
     ⟨(some 3), none, .alloc [.n 2, .n 3, .n 2, .n 1, .r (.v (.int .i64 0))]⟩,
     ⟨none, none, .st 5 (.t 3) (.t 17)⟩] [1, 2, 3])
  (.seq (.seq (.reg none [⟨(some 18), none, .fa 1 (.t 1)⟩,
      ⟨(some 19), none, .ld false 1 (.t 18)⟩,
      ⟨(some 20), none, .len false (.t 19)⟩,
      ⟨(some 21), none, .mv (.k (V.i 0))⟩] [1, 2, 3, 19, 20, 21])
   (.bl 0 (.seq (.reg none [⟨(some 22), none, .bin .lss .i (.t 21) (.t 20)⟩] [1, 2, 3, 19, 20, 21, 22])
    (.seq (.cond (.t 22)
      (.skip)
      (.exit 0))
    (.seq (.block 1 (.seq (.reg none [⟨(some 23), none, .ia 3 (.t 19) (.t 21)⟩,
         ⟨(some 24), none, .ld true 3 (.t 23)⟩,
         ⟨(some 5), none, .alloc [.r (.v (.int .i64 0)), .r (.v (.int .i64 0)), .n 2]⟩,
         ⟨none, none, .st 3 (.t 5) (.t 24)⟩] [1, 2, 3, 5, 19, 20, 21])
      (.reg (some [[], [0], [], [2], [], [4], [], [6], [6, 7], [2, 3, 4, 5, 6, 7, 8], [2, 3, 4, 5, 6, 7, 8, 9], [0, 1, 2, 3, 4, 5, 6, 7, 8, 9, 10], [0, 1, 2, 3, 4, 5, 6, 7, 8, 9, 10, 11], [0, 1, 2, 3, 4, 5, 6, 7, 8, 9, 10, 11, 12]]) [⟨(some 25), none, .fa 1 (.t 3)⟩,
        ⟨(some 26), none, .ld false 1 (.t 25)⟩,
        ⟨(some 27), none, .fa 0 (.t 5)⟩,
        ⟨(some 28), none, .ld false 1 (.t 27)⟩,
        ⟨(some 29), none, .fa 1 (.t 5)⟩,
        ⟨(some 30), none, .ld false 1 (.t 29)⟩,
        ⟨(some 31), none, .fa 2 (.t 5)⟩,
        ⟨(some 32), none, .ld false 1 (.t 31)⟩,
        ⟨(some 33), none, .call 109 true [(.t 32)]⟩,
        ⟨(some 34), none, .bld [.r (.v (.int .i64 0)), .r (.v (.int .i64 0)), .n 2] [(0, 1, (.t 28)), (1, 1, (.t 30)), (2, 1, (.t 33))]⟩,
        ⟨(some 35), none, .bsl 3 [(.t 34)]⟩,
        ⟨(some 36), none, .app 3 40 true (.t 26) (.t 35)⟩,
        ⟨(some 37), none, .fa 1 (.t 3)⟩,
        ⟨none, none, .st 1 (.t 37) (.t 36)⟩] [1, 2, 3, 19, 20, 21])))
    (.reg none [⟨(some 38), none, .bin .add .i (.t 21) (.k (V.i 1))⟩,
      ⟨(some 21), none, .mv (.t 38)⟩] [1, 2, 3, 19, 20, 21]))))))
  (.seq (.seq (.reg none [⟨(some 39), none, .fa 2 (.t 1)⟩,
      ⟨(some 40), none, .ld false 1 (.t 39)⟩,
      ⟨(some 41), none, .len false (.t 40)⟩,
      ⟨(some 42), none, .mv (.k (V.i 0))⟩] [2, 3, 40, 41, 42])
   (.bl 2 (.seq (.reg none [⟨(some 43), none, .bin .lss .i (.t 42) (.t 41)⟩] [2, 3, 40, 41, 42, 43])
    (.seq (.cond (.t 43)
      (.skip)
      (.exit 2))
    (.seq (.block 3 (.seq (.reg none [⟨(some 44), none, .ia 2 (.t 40) (.t 42)⟩,
         ⟨(some 45), none, .ld true 2 (.t 44)⟩,
         ⟨(some 7), none, .alloc [.r (.v (.int .i64 0)), .n 2]⟩,
         ⟨none, none, .st 2 (.t 7) (.t 45)⟩] [2, 3, 7, 40, 41, 42])
      (.reg (some [[], [0], [], [2], [], [4], [4, 5], [2, 3, 4, 5, 6], [2, 3, 4, 5, 6, 7], [0, 1, 2, 3, 4, 5, 6, 7, 8], [0, 1, 2, 3, 4, 5, 6, 7, 8, 9], [0, 1, 2, 3, 4, 5, 6, 7, 8, 9, 10]]) [⟨(some 46), none, .fa 2 (.t 3)⟩,
        ⟨(some 47), none, .ld false 1 (.t 46)⟩,
        ⟨(some 48), none, .fa 0 (.t 7)⟩,
        ⟨(some 49), none, .ld false 1 (.t 48)⟩,
        ⟨(some 50), none, .fa 1 (.t 7)⟩,
        ⟨(some 51), none, .ld false 1 (.t 50)⟩,
        ⟨(some 52), none, .call 109 true [(.t 51)]⟩,
        ⟨(some 53), none, .bld [.r (.v (.int .i64 0)), .n 2] [(0, 1, (.t 49)), (1, 1, (.t 52))]⟩,
        ⟨(some 54), none, .bsl 2 [(.t 53)]⟩,
        ⟨(some 55), none, .app 2 32 true (.t 47) (.t 54)⟩,
        ⟨(some 56), none, .fa 2 (.t 3)⟩,
        ⟨none, none, .st 1 (.t 56) (.t 55)⟩] [2, 3, 40, 41, 42])))
    (.reg none [⟨(some 57), none, .bin .add .i (.t 42) (.k (V.i 1))⟩,
      ⟨(some 42), none, .mv (.t 57)⟩] [2, 3, 40, 41, 42]))))))
  (.seq (.reg none [⟨(some 58), none, .ld true 5 (.t 3)⟩,
     ⟨none, none, .st 5 (.t 2) (.t 58)⟩] [2])
  (.ret)))))
def rv94 : List RV := [.c 2 true 5]
open Go.Proofs Go.IntWalk
set_option linter.unusedVariables false
set_option maxRecDepth 100000
set_option maxHeartbeats 4000000
def I_copyCentre_l2 (g : G) (t : TE) : List Inlet → List Inlet → Option (List Inlet)
  | [], w2 =>
    some w2
  | z2 :: ls2, w2 =>
    cl (I_copyItems g t z2.Wait) fun x3 =>
    lP ([(Inlet.mk z2.Cell x3)]) fun (l5 : List Inlet) =>
    gd (((w2.length + l5.length) * 32 ≤ 70368744177664)) <|
    lP (w2 ++ l5) fun (l6 : List Inlet) =>
    I_copyCentre_l2 g t ls2 l6
def I_copyCentre_l1 (g : G) (t : TE) : List Chute → List Chute → Option (List Chute)
  | [], w1 =>
    some w1
  | z1 :: ls1, w1 =>
    cl (I_copyItems g t z1.Held) fun x2 =>
    lP ([(Chute.mk z1.Cell z1.Room x2)]) fun (l3 : List Chute) =>
    gd (((w1.length + l3.length) * 40 ≤ 70368744177664)) <|
    lP (w1 ++ l3) fun (l4 : List Chute) =>
    I_copyCentre_l1 g t ls1 l4
def I_copyCentre (g : G) (t : TE) (a0 : Centre) : Option Centre :=
  cl (I_copyItems g t a0.Belt) fun x1 =>
  lP ([]) fun (l1 : List Int) =>
  gd (((l1.length + a0.Plan.length) * 8 ≤ 70368744177664)) <|
  lP (l1 ++ a0.Plan) fun (l2 : List Int) =>
  cl (I_copyCentre_l1 g t a0.Chutes []) fun y1 =>
  cl (I_copyCentre_l2 g t a0.Inlets []) fun y2 =>
  some (Centre.mk x1 y1 y2 l2 a0.Now)
theorem fit94 : codeFit Try.prog Try.f94.ntmps (Try.f94.body.getD .skip) ir94 = true := by kernel_rfl
theorem c_I_copyCentre {g : G} {t : TE} {a0 : Centre} {r : Centre} (hg : g = G.real) (ht : t = TE.real) (h : I_copyCentre g t a0 = some r) : Fn Try.prog 94 [.g (Centre.rs t a0)] (.g (Centre.ds t r)) := by
  obtain ⟨X, hX⟩ := hide (.g (Centre.ds t r) : X)
  rw [← hX]
  refine fn_of (rvs := rv94) (j := ir94) Try.func94 rfl fit94 (Nat.le_of_ble_eq_true rfl) (by kernel_rfl) prog_mixed ?_
  intro g2 F hg2 hF
  obtain rfl : g2 = g := hg2.unique.trans hg.symm
  clear hg2
  obtain ⟨wrap, lt, le, eq, quo, rem, band, bor, bxor, shl, shr, nat, int, add, sub, mul, cat, seq, slt, sub3, byte, llen, nadd, nsub, dlen, dapp, dset, drep, rd, rda, up, rsub, dsub, all, sle, slen, hasI, putI, hasS, putS, imin, imax, fzc⟩ := g2
  obtain ⟨r_Item, d_Item, r_Chute, d_Chute, r_Inlet, d_Inlet, r_I64, d_I64, r_U8, d_U8, d_InletF⟩ := t
  obtain ⟨a0_Belt, a0_Chutes, a0_Inlets, a0_Plan, a0_Now⟩ := a0
  have hnil_Item : d_Item [] = [] := d_nil_Item ht
  have hnil_Chute : d_Chute [] = [] := d_nil_Chute ht
  have hnil_Inlet : d_Inlet [] = [] := d_nil_Inlet ht
  have hnil_I64 : d_I64 [] = [] := d_nil_I64 ht
  have hnil_U8 : d_U8 [] = [] := d_nil_U8 ht
  unfold I_copyCentre at h
  try dsimp only at h
  cbv
  obtain ⟨x1, hx1, h⟩ := of_cl h
  try dsimp only at h
  refine ACall.mk _ _ rfl (hF _ _ _ (c_I_copyItems hg ht hx1)) (.inl rfl) (Nat.le_of_ble_eq_true rfl) ?_
  cbv
  obtain ⟨l1, hl1, h⟩ := of_lP h
  try dsimp only at h
  refine ANew.mk (d_I64 l1) (dlen (d_I64 l1)) (by rw [← hl1]; exact lit_I64 hg ht []) (by rw [← hl1]; exact litn_I64 hg ht []) ?_
  cbv
  obtain ⟨hc3, h⟩ := of_gd h
  refine AStep.mk (app_ok_I64 hg ht (dlen_I64 hg ht _) (up_I64 hg ht _) hc3) ?_
  cbv
  obtain ⟨l2, hl2, h⟩ := of_lP h
  try dsimp only at h
  refine ANew.mk (d_I64 l2) (dlen (d_I64 l2)) (by rw [← hl2]; exact app_I64 hg ht (dlen_I64 hg ht _) (up_I64 hg ht _)) (by rw [← hl2]; exact appl_I64 hg ht (dlen_I64 hg ht _) (up_I64 hg ht _)) ?_
  cbv
  obtain ⟨o1, ho1, h⟩ := of_cl h
  try dsimp only at h
  try rw [hg] at ho1
  try rw [ht] at ho1
  refine ABL.mk { p : Nat × Int × List Chute // p.1 ≤ a0_Chutes.length ∧ p.2.1 = ((p.1 : Nat) : Int) ∧ I_copyCentre_l1 G.real TE.real (List.drop p.1 a0_Chutes) p.2.2 = some o1 } (fun ⟨⟨k1, v1, w1⟩, _⟩ => ({ sl := [(1, .c (.p 0 5 0 0)), (2, .c (.p 1 5 0 0)), (3, .c (.p 2 5 0 0)), (19, .c (.r (.s 3 (r_Chute a0_Chutes)))), (20, .c (.r (.v (.int .i64 (llen (r_Chute a0_Chutes)))))), (21, .c (.r (.v (.int .i64 v1))))], tab := [(0, some (.foc 5 [] [.r (.s 2 (r_Item a0_Belt)), .r (.s 3 (r_Chute a0_Chutes)), .r (.s 2 (r_Inlet a0_Inlets)), .r (.s 1 (r_I64 a0_Plan)), .r (.v (.int .i64 a0_Now))] [])), (1, some (.foc 5 [] [.n 2, .n 3, .n 2, .n 1, .r (.v (.int .i64 0))] [])), (2, some (.foc 5 [] [.f 3 2 0 (dlen (d_Item x1)), .f 4 3 0 (dlen (d_Chute w1)), .n 2, .f 5 1 0 (dlen (d_I64 l2)), .r (.v (.int .i64 a0_Now))] [])), (3, some (.arr 2 (d_Item x1))), (4, some (.arr 3 (d_Chute w1))), (5, some (.arr 1 (d_I64 l2)))] } : St)) 6 (fun p => a0_Chutes.length - p.1.1) ⟨(0, 0, []), Nat.zero_le _, rfl, ho1⟩ (List Chute) (fun y1 => ({ sl := [(1, .c (.p 0 5 0 0)), (2, .c (.p 1 5 0 0)), (3, .c (.p 2 5 0 0))], tab := [(0, some (.foc 5 [] [.r (.s 2 (r_Item a0_Belt)), .r (.s 3 (r_Chute a0_Chutes)), .r (.s 2 (r_Inlet a0_Inlets)), .r (.s 1 (r_I64 a0_Plan)), .r (.v (.int .i64 a0_Now))] [])), (1, some (.foc 5 [] [.n 2, .n 3, .n 2, .n 1, .r (.v (.int .i64 0))] [])), (2, some (.foc 5 [] [.f 3 2 0 (dlen (d_Item x1)), .f 4 3 0 (dlen (d_Chute y1)), .n 2, .f 5 1 0 (dlen (d_I64 l2)), .r (.v (.int .i64 a0_Now))] [])), (3, some (.arr 2 (d_Item x1))), (4, some (.arr 3 (d_Chute y1))), (5, some (.arr 1 (d_I64 l2)))] } : St)) 6 (fun y => o1 = y) ?_ ?_ ?_
  · refine Wk.of [(0, some 0), (1, some 16), (2, some 192), (3, some 64), (4, none), (5, some 128)] rfl rfl ?_ ?_
    · cbv
      all_goals try rw [show dlen (d_Chute []) = 0 from dlen_nil_Chute hg ht]
      all_goals try rw [hnil_Chute]
      all_goals exact ⟨⟨_, rfl, rfl⟩, ⟨_, rfl, rfl⟩, ⟨_, rfl, rfl⟩, ⟨_, rfl, rfl⟩, ⟨_, rfl, rfl⟩, ⟨_, rfl, rfl⟩, trivial⟩
    · cbv
      all_goals try rw [show dlen (d_Chute []) = 0 from dlen_nil_Chute hg ht]
      all_goals try rw [hnil_Chute]
      all_goals exact ⟨⟨_, rfl, _, rfl, rfl, rfl, rfl, rfl, rfl, trivial⟩, ⟨_, rfl, _, rfl, rfl, rfl, rfl, rfl, rfl, trivial⟩, ⟨_, rfl, _, rfl, rfl, ⟨⟨_, rfl⟩, rfl, rfl⟩, rfl, rfl, rfl, trivial⟩, ⟨_, rfl, rfl⟩, ⟨_, rfl⟩, ⟨_, rfl, rfl⟩, trivial⟩
  · rintro ⟨⟨k1, v1, w1⟩, hk1, hi1, h_1⟩ hq1
    have hm1 := (hq1.1 19 _ _ rfl)
    try dsimp only at hk1 hi1 h_1
    clear hq1
    cbv
    by_cases hc1_ : k1 < a0_Chutes.length
    · have hb1 : lt v1 (llen (r_Chute a0_Chutes)) = true := ltL_true_Chute hg ht hi1 hc1_
      have hs1 := stepL_Chute hg ht hi1 hc1_ hm1
      obtain ⟨z1, hz1⟩ := some_of_lt hc1_
      rw [drop_of_some hz1] at h_1
      rw [I_copyCentre_l1] at h_1
      obtain ⟨z1_Cell, z1_Room, z1_Held⟩ := z1
      try rw [← hg] at h_1
      try rw [← ht] at h_1
      try dsimp only at h_1
      rw [hb1]
      cbv
      refine AStep.mk (nn_L hi1) ?_
      cbv
      refine AGet.mk _ (r_getL_Chute hg ht hi1 hz1) ?_
      cbv
      obtain ⟨x2, hx2, h_1⟩ := of_cl h_1
      try dsimp only at h_1
      refine ACall.mk _ _ rfl (hF _ _ _ (c_I_copyItems hg ht hx2)) (.inl rfl) (Nat.le_of_ble_eq_true rfl) ?_
      cbv
      refine AStep.mk ⟨rfl, (dlen_Item hg ht _)⟩ ?_
      cbv
      obtain ⟨l3, hl3, h_1⟩ := of_lP h_1
      try dsimp only at h_1
      refine ANew.mk (d_Chute l3) (dlen (d_Chute l3)) (by rw [← hl3]; have e := lit_Chute hg ht [(Chute.mk z1_Cell z1_Room x2)]; dsimp only [List.map, Chute.ds] at e; (try simp only [hnil_Item, hnil_Chute, hnil_Inlet, hnil_I64, hnil_U8] at e); exact e) (by rw [← hl3]; exact litn_Chute hg ht [(Chute.mk z1_Cell z1_Room x2)]) ?_
      cbv
      obtain ⟨hc1, h_1⟩ := of_gd h_1
      refine AStep.mk ⟨⟨rfl, (dlen_Chute hg ht _)⟩, (app_ok_Chute hg ht (dlen_Chute hg ht _) rfl hc1)⟩ ?_
      cbv
      obtain ⟨l4, hl4, h_1⟩ := of_lP h_1
      try dsimp only at h_1
      refine ANew.mk (d_Chute l4) (dlen (d_Chute l4)) (by rw [← hl4]; exact app_Chute hg ht (dlen_Chute hg ht _) rfl) (by rw [← hl4]; exact appl_Chute hg ht (dlen_Chute hg ht _) rfl) ?_
      cbv
      try rw [hg] at h_1
      try rw [ht] at h_1
      refine ⟨⟨(k1 + 1, (wrap .i64 (add v1 1)), l4), hc1_, hs1, h_1⟩, Wk.of [(0, some 0), (1, some 1), (2, some 2), (3, some 3), (4, some 262), (5, some 5)] rfl rfl ?_ ?_, meas_L hc1_⟩
      · cbv
        all_goals exact ⟨⟨_, rfl, rfl⟩, ⟨_, rfl, rfl⟩, ⟨_, rfl, rfl⟩, ⟨_, rfl, rfl⟩, ⟨_, rfl, rfl⟩, ⟨_, rfl, rfl⟩, trivial⟩
      · cbv
        all_goals exact ⟨⟨_, rfl, _, rfl, rfl, rfl, rfl, rfl, rfl, trivial⟩, ⟨_, rfl, _, rfl, rfl, rfl, rfl, rfl, rfl, trivial⟩, ⟨_, rfl, _, rfl, rfl, rfl, rfl, rfl, rfl, trivial⟩, ⟨_, rfl, rfl⟩, ⟨_, rfl, rfl⟩, ⟨_, rfl, rfl⟩, trivial⟩
    · have hb1 : lt v1 (llen (r_Chute a0_Chutes)) = false := ltL_false_Chute hg ht hi1 hc1_
      rw [List.drop_of_length_le (Nat.le_of_not_lt hc1_)] at h_1
      rw [I_copyCentre_l1] at h_1
      try rw [← hg] at h_1
      try rw [← ht] at h_1
      try dsimp only at h_1
      rw [hb1]
      cbv
      refine ⟨w1, Wk.of [(0, some 0), (1, some 1), (2, some 2), (3, some 3), (4, some 4), (5, some 5)] rfl rfl ?_ ?_, (Option.some.inj h_1).symm⟩
      · cbv
        all_goals exact ⟨⟨_, rfl, rfl⟩, ⟨_, rfl, rfl⟩, ⟨_, rfl, rfl⟩, trivial⟩
      · cbv
        all_goals exact ⟨⟨_, rfl, _, rfl, rfl, rfl, rfl, rfl, rfl, trivial⟩, ⟨_, rfl, _, rfl, rfl, rfl, rfl, rfl, rfl, trivial⟩, ⟨_, rfl, _, rfl, rfl, rfl, rfl, rfl, rfl, trivial⟩, ⟨_, rfl, rfl⟩, ⟨_, rfl, rfl⟩, ⟨_, rfl, rfl⟩, trivial⟩
  · rintro y1 hy1
    replace hy1 := hy1.symm
    subst hy1
    try dsimp only [lr, lrL, lrp, lrpL] at h
    cbv
    obtain ⟨o2, ho2, h⟩ := of_cl h
    try dsimp only at h
    try rw [hg] at ho2
    try rw [ht] at ho2
    refine ABL.mk { p : Nat × Int × List Inlet // p.1 ≤ a0_Inlets.length ∧ p.2.1 = ((p.1 : Nat) : Int) ∧ I_copyCentre_l2 G.real TE.real (List.drop p.1 a0_Inlets) p.2.2 = some o2 } (fun ⟨⟨k2, v2, w2⟩, _⟩ => ({ sl := [(2, .c (.p 0 5 0 0)), (3, .c (.p 1 5 0 0)), (40, .c (.r (.s 2 (r_Inlet a0_Inlets)))), (41, .c (.r (.v (.int .i64 (llen (r_Inlet a0_Inlets)))))), (42, .c (.r (.v (.int .i64 v2))))], tab := [(0, some (.foc 5 [] [.n 2, .n 3, .n 2, .n 1, .r (.v (.int .i64 0))] [])), (1, some (.foc 5 [] [.f 2 2 0 (dlen (d_Item x1)), .f 3 3 0 (dlen (d_Chute y1)), .f 4 2 0 (dlen (d_Inlet w2)), .f 5 1 0 (dlen (d_I64 l2)), .r (.v (.int .i64 a0_Now))] [])), (2, some (.arr 2 (d_Item x1))), (3, some (.arr 3 (d_Chute y1))), (4, some (.arr 2 (d_Inlet w2))), (5, some (.arr 1 (d_I64 l2)))] } : St)) 6 (fun p => a0_Inlets.length - p.1.1) ⟨(0, 0, []), Nat.zero_le _, rfl, ho2⟩ (List Inlet) (fun y2 => ({ sl := [(2, .c (.p 0 5 0 0)), (3, .c (.p 1 5 0 0))], tab := [(0, some (.foc 5 [] [.n 2, .n 3, .n 2, .n 1, .r (.v (.int .i64 0))] [])), (1, some (.foc 5 [] [.f 2 2 0 (dlen (d_Item x1)), .f 3 3 0 (dlen (d_Chute y1)), .f 4 2 0 (dlen (d_Inlet y2)), .f 5 1 0 (dlen (d_I64 l2)), .r (.v (.int .i64 a0_Now))] [])), (2, some (.arr 2 (d_Item x1))), (3, some (.arr 3 (d_Chute y1))), (4, some (.arr 2 (d_Inlet y2))), (5, some (.arr 1 (d_I64 l2)))] } : St)) 6 (fun y => o2 = y) ?_ ?_ ?_
    · refine Wk.of [(0, some 1), (1, some 2), (2, some 3), (3, some 4), (4, none), (5, some 5)] rfl rfl ?_ ?_
      · cbv
        all_goals try rw [show dlen (d_Inlet []) = 0 from dlen_nil_Inlet hg ht]
        all_goals try rw [hnil_Inlet]
        all_goals exact ⟨⟨_, rfl, rfl⟩, ⟨_, rfl, rfl⟩, ⟨_, rfl, rfl⟩, ⟨_, rfl, rfl⟩, ⟨_, rfl, rfl⟩, trivial⟩
      · cbv
        all_goals try rw [show dlen (d_Inlet []) = 0 from dlen_nil_Inlet hg ht]
        all_goals try rw [hnil_Inlet]
        all_goals exact ⟨⟨_, rfl, _, rfl, rfl, rfl, rfl, rfl, rfl, trivial⟩, ⟨_, rfl, _, rfl, rfl, rfl, ⟨⟨_, rfl⟩, rfl, rfl⟩, rfl, rfl, trivial⟩, ⟨_, rfl, rfl⟩, ⟨_, rfl, rfl⟩, ⟨_, rfl⟩, ⟨_, rfl, rfl⟩, trivial⟩
    · rintro ⟨⟨k2, v2, w2⟩, hk2, hi2, h_2⟩ hq2
      have hm2 := (hq2.1 40 _ _ rfl)
      try dsimp only at hk2 hi2 h_2
      clear hq2
      cbv
      by_cases hc2_ : k2 < a0_Inlets.length
      · have hb2 : lt v2 (llen (r_Inlet a0_Inlets)) = true := ltL_true_Inlet hg ht hi2 hc2_
        have hs2 := stepL_Inlet hg ht hi2 hc2_ hm2
        obtain ⟨z2, hz2⟩ := some_of_lt hc2_
        rw [drop_of_some hz2] at h_2
        rw [I_copyCentre_l2] at h_2
        obtain ⟨z2_Cell, z2_Wait⟩ := z2
        try rw [← hg] at h_2
        try rw [← ht] at h_2
        try dsimp only at h_2
        rw [hb2]
        cbv
        refine AStep.mk (nn_L hi2) ?_
        cbv
        refine AGet.mk _ (r_getL_Inlet hg ht hi2 hz2) ?_
        cbv
        obtain ⟨x3, hx3, h_2⟩ := of_cl h_2
        try dsimp only at h_2
        refine ACall.mk _ _ rfl (hF _ _ _ (c_I_copyItems hg ht hx3)) (.inl rfl) (Nat.le_of_ble_eq_true rfl) ?_
        cbv
        refine AStep.mk ⟨rfl, (dlen_Item hg ht _)⟩ ?_
        cbv
        obtain ⟨l5, hl5, h_2⟩ := of_lP h_2
        try dsimp only at h_2
        refine ANew.mk (d_Inlet l5) (dlen (d_Inlet l5)) (by rw [← hl5]; have e := lit_Inlet hg ht [(Inlet.mk z2_Cell x3)]; dsimp only [List.map, Inlet.ds] at e; (try simp only [hnil_Item, hnil_Chute, hnil_Inlet, hnil_I64, hnil_U8] at e); exact e) (by rw [← hl5]; exact litn_Inlet hg ht [(Inlet.mk z2_Cell x3)]) ?_
        cbv
        obtain ⟨hc2, h_2⟩ := of_gd h_2
        refine AStep.mk ⟨⟨rfl, (dlen_Inlet hg ht _)⟩, (app_ok_Inlet hg ht (dlen_Inlet hg ht _) rfl hc2)⟩ ?_
        cbv
        obtain ⟨l6, hl6, h_2⟩ := of_lP h_2
        try dsimp only at h_2
        refine ANew.mk (d_Inlet l6) (dlen (d_Inlet l6)) (by rw [← hl6]; exact app_Inlet hg ht (dlen_Inlet hg ht _) rfl) (by rw [← hl6]; exact appl_Inlet hg ht (dlen_Inlet hg ht _) rfl) ?_
        cbv
        try rw [hg] at h_2
        try rw [ht] at h_2
        refine ⟨⟨(k2 + 1, (wrap .i64 (add v2 1)), l6), hc2_, hs2, h_2⟩, Wk.of [(0, some 0), (1, some 1), (2, some 2), (3, some 3), (4, some 230), (5, some 5)] rfl rfl ?_ ?_, meas_L hc2_⟩
        · cbv
          all_goals exact ⟨⟨_, rfl, rfl⟩, ⟨_, rfl, rfl⟩, ⟨_, rfl, rfl⟩, ⟨_, rfl, rfl⟩, ⟨_, rfl, rfl⟩, trivial⟩
        · cbv
          all_goals exact ⟨⟨_, rfl, _, rfl, rfl, rfl, rfl, rfl, rfl, trivial⟩, ⟨_, rfl, _, rfl, rfl, rfl, rfl, rfl, rfl, trivial⟩, ⟨_, rfl, rfl⟩, ⟨_, rfl, rfl⟩, ⟨_, rfl, rfl⟩, ⟨_, rfl, rfl⟩, trivial⟩
      · have hb2 : lt v2 (llen (r_Inlet a0_Inlets)) = false := ltL_false_Inlet hg ht hi2 hc2_
        rw [List.drop_of_length_le (Nat.le_of_not_lt hc2_)] at h_2
        rw [I_copyCentre_l2] at h_2
        try rw [← hg] at h_2
        try rw [← ht] at h_2
        try dsimp only at h_2
        rw [hb2]
        cbv
        refine ⟨w2, Wk.of [(0, some 0), (1, some 1), (2, some 2), (3, some 3), (4, some 4), (5, some 5)] rfl rfl ?_ ?_, (Option.some.inj h_2).symm⟩
        · cbv
          all_goals exact ⟨⟨_, rfl, rfl⟩, ⟨_, rfl, rfl⟩, trivial⟩
        · cbv
          all_goals exact ⟨⟨_, rfl, _, rfl, rfl, rfl, rfl, rfl, rfl, trivial⟩, ⟨_, rfl, _, rfl, rfl, rfl, rfl, rfl, rfl, trivial⟩, ⟨_, rfl, rfl⟩, ⟨_, rfl, rfl⟩, ⟨_, rfl, rfl⟩, ⟨_, rfl, rfl⟩, trivial⟩
    · rintro y2 hy2
      replace hy2 := hy2.symm
      subst hy2
      try dsimp only [lr, lrL, lrp, lrpL] at h
      cbv
      obtain rfl := Option.some.inj h
      exact ARet.mk ⟨⟨rfl, (dlen_Item hg ht _)⟩, ⟨⟨rfl, (dlen_Chute hg ht _)⟩, ⟨⟨rfl, (dlen_Inlet hg ht _)⟩, ⟨rfl, (dlen_I64 hg ht _)⟩⟩⟩⟩ hX.symm
end Go.Vs
namespace Go.Vs
set_option maxRecDepth 100000
def ir95 : J :=
  .seq (.reg none [⟨(some 9), none, .mv (.t 0)⟩,
     ⟨(some 10), none, .nilc (.t 9)⟩,
     ⟨(some 11), none, .fa 0 (.t 10)⟩,
     ⟨(some 12), none, .ld false 1 (.t 11)⟩,
     ⟨(some 13), none, .len false (.t 12)⟩,
     ⟨(some 2), none, .mv (.t 13)⟩] [0, 2])
  (.seq (.reg (some [[], [0], [0, 1], [0, 1, 2], [], [4], [0, 1, 2, 3, 4, 5], [0, 1, 2, 3, 4, 5, 6], [0, 1, 2, 3, 4, 5, 6, 7], [], [9], [9, 10], [9, 10, 11], [], [13], [9, 10, 11, 12, 13, 14], [0, 1, 2, 3, 4, 5, 6, 7, 8, 9, 10, 11, 12, 13, 14, 15], [0, 1, 2, 3, 4, 5, 6, 7, 8, 9, 10, 11, 12, 13, 14, 15, 16]]) [⟨(some 14), none, .mv (.t 0)⟩,
     ⟨(some 15), none, .nilc (.t 14)⟩,
     ⟨(some 16), none, .fa 0 (.t 15)⟩,
     ⟨(some 17), none, .ld false 1 (.t 16)⟩,
     ⟨(some 18), none, .mv (.t 2)⟩,
     ⟨(some 19), none, .bin .sub .i (.t 18) (.k (V.i 1))⟩,
     ⟨(some 20), none, .ia 2 (.t 17) (.t 19)⟩,
     ⟨(some 21), none, .ld true 2 (.t 20)⟩,
     ⟨(some 22), none, .bsl 2 [(.t 21)]⟩,
     ⟨(some 23), none, .mv (.t 0)⟩,
     ⟨(some 24), none, .nilc (.t 23)⟩,
     ⟨(some 25), none, .fa 0 (.t 24)⟩,
     ⟨(some 26), none, .ld false 1 (.t 25)⟩,
     ⟨(some 27), none, .mv (.t 2)⟩,
     ⟨(some 28), none, .bin .sub .i (.t 27) (.k (V.i 1))⟩,
     ⟨(some 29), none, .sl 2 (.t 26) none (some (.t 28))⟩,
     ⟨(some 30), none, .app 2 16 false (.t 22) (.t 29)⟩,
     ⟨(some 3), none, .mv (.t 30)⟩] [0, 3])
  (.seq (.seq (.reg none [⟨(some 31), none, .mv (.t 0)⟩,
      ⟨(some 32), none, .nilc (.t 31)⟩,
      ⟨(some 33), none, .fa 1 (.t 32)⟩,
      ⟨(some 34), none, .ld false 1 (.t 33)⟩,
      ⟨(some 35), none, .len false (.t 34)⟩,
      ⟨(some 36), none, .mv (.k (V.i 0))⟩] [0, 3, 35, 36])
   (.bl 0 (.seq (.reg none [⟨(some 37), none, .bin .lss .i (.t 36) (.t 35)⟩] [0, 3, 35, 36, 37])
    (.seq (.cond (.t 37)
      (.skip)
      (.exit 0))
    (.seq (.block 1 (.seq (.reg none [⟨(some 38), none, .mv (.t 36)⟩,
         ⟨(some 4), none, .mv (.t 38)⟩] [0, 3, 4, 35, 36])
      (.seq (.reg none [⟨(some 39), none, .mv (.t 0)⟩,
         ⟨(some 40), none, .nilc (.t 39)⟩,
         ⟨(some 41), none, .fa 1 (.t 40)⟩,
         ⟨(some 42), none, .ld false 1 (.t 41)⟩,
         ⟨(some 43), none, .mv (.t 4)⟩,
         ⟨(some 44), none, .ia 3 (.t 42) (.t 43)⟩,
         ⟨(some 5), none, .mv (.t 44)⟩] [0, 3, 4, 5, 35, 36])
      (.seq (.reg none [⟨(some 45), none, .mv (.t 3)⟩,
         ⟨(some 46), none, .mv (.t 5)⟩,
         ⟨(some 47), none, .nilc (.t 46)⟩,
         ⟨(some 48), none, .fa 0 (.t 47)⟩,
         ⟨(some 49), none, .ld false 1 (.t 48)⟩,
         ⟨(some 50), none, .ia 2 (.t 45) (.t 49)⟩,
         ⟨(some 51), none, .ld true 2 (.t 50)⟩,
         ⟨(some 6), none, .alloc [.r (.v (.int .i64 0)), .r (.v (.int .i64 0))]⟩,
         ⟨none, none, .st 2 (.t 6) (.t 51)⟩] [0, 3, 4, 5, 6, 35, 36])
      (.seq (.gh (.ga (.reg (some [[], [], [0, 1], [0, 1, 2], [0, 1, 2, 3], [0, 1, 2, 3, 4], [0, 1, 2, 3, 4, 5], [0, 1, 2, 3, 4, 5, 6], [0, 1, 2, 3], [0, 1, 2, 3, 8], [0, 1, 2, 3, 4, 5, 6, 7, 8, 9], [0, 1, 2, 3, 4, 5, 6, 7, 8, 9, 10], [0, 1, 2, 3], [0, 1, 2, 3, 4, 5, 6, 7, 8, 9, 10, 11, 12], [0, 1, 2, 3, 4, 5, 6, 7, 8, 9, 10, 11, 12, 13], [0, 1, 2, 3, 4, 5, 6, 7, 8, 9, 10, 11, 12, 13, 14], [0, 1, 2, 3, 4, 5, 6, 7, 8, 9, 10, 11, 12, 13, 14, 15], [0, 1, 2, 3, 4, 5, 6, 7, 8, 9, 10, 11, 12, 13, 14, 15, 16], [0, 1, 2, 3, 4, 5, 6, 7, 8, 9, 10, 11, 12, 13, 14, 15, 16, 17], [0, 1, 2, 3, 4, 5, 6, 7, 8, 9, 10, 11, 12, 13, 14, 15, 16, 17, 18], [0, 1, 2, 3, 4, 5, 6, 7, 8, 9, 10, 11, 12, 13, 14, 15, 16, 17, 18, 19], [0, 1, 2, 3, 4, 5, 6, 7, 8, 9, 10, 11, 12, 13, 14, 15], [0, 1, 2, 3, 4, 5, 6, 7, 8, 9, 10, 11, 12, 13, 14, 15, 21], [0, 1, 2, 3, 4, 5, 6, 7, 8, 9, 10, 11, 12, 13, 14, 15, 21, 22], [0, 1, 2, 3, 4, 5, 6, 7, 8, 9, 10, 11, 12, 13, 14, 15, 21, 22, 23], [0, 1, 2, 3, 4, 5, 6, 7, 8, 9, 10, 11, 12, 13, 14, 15, 16, 17, 18, 19, 20, 21, 22, 23, 24], [0, 1, 2, 3, 4, 5, 6, 7, 8, 9, 10, 11, 12, 13, 14, 15, 16, 17, 18, 19, 20, 21, 22, 23, 24, 25]]) [⟨(some 52), none, .ld true 2 (.t 6)⟩,
          ⟨(some 53), none, .bld [.r (.v (.int .i64 0)), .r (.v (.int .i64 0))] []⟩,
          ⟨(some 54), none, .eqs true [.i, .i] (.t 52) (.t 53)⟩,
          ⟨(some 55), none, .mv (.t 54)⟩,
          ⟨(some 56), (some (55, true)), .mv (.t 0)⟩,
          ⟨(some 57), (some (55, true)), .nilc (.t 56)⟩,
          ⟨(some 58), (some (55, true)), .fa 3 (.t 57)⟩,
          ⟨(some 59), (some (55, true)), .ld false 1 (.t 58)⟩,
          ⟨(some 60), (some (55, true)), .fa 1 (.t 6)⟩,
          ⟨(some 61), (some (55, true)), .ld false 1 (.t 60)⟩,
          ⟨(some 62), (some (55, true)), .ia 1 (.t 59) (.t 61)⟩,
          ⟨(some 63), (some (55, true)), .ld false 1 (.t 62)⟩,
          ⟨(some 64), (some (55, true)), .mv (.t 4)⟩,
          ⟨(some 65), (some (55, true)), .bin .eql .i (.t 63) (.t 64)⟩,
          ⟨(some 66), none, .pick (.t 55) (.t 65) (.k (V.b false))⟩,
          ⟨(some 67), none, .mv (.t 66)⟩,
          ⟨(some 68), (some (67, true)), .mv (.t 5)⟩,
          ⟨(some 69), (some (67, true)), .nilc (.t 68)⟩,
          ⟨(some 70), (some (67, true)), .fa 2 (.t 69)⟩,
          ⟨(some 71), (some (67, true)), .ld false 1 (.t 70)⟩,
          ⟨(some 72), (some (67, true)), .len false (.t 71)⟩,
          ⟨(some 73), (some (67, true)), .mv (.t 5)⟩,
          ⟨(some 74), (some (67, true)), .nilc (.t 73)⟩,
          ⟨(some 75), (some (67, true)), .fa 1 (.t 74)⟩,
          ⟨(some 76), (some (67, true)), .ld false 1 (.t 75)⟩,
          ⟨(some 77), (some (67, true)), .bin .lss .i (.t 72) (.t 76)⟩,
          ⟨(some 78), none, .pick (.t 67) (.t 77) (.k (V.b false))⟩] [0, 3, 5, 6, 35, 36, 78])))
      (.cond (.t 78)
       (.seq (.gh (.ga (.reg (some [[], [], [1], [1, 2], [1, 2, 3], [], [5], [1, 2, 3, 4, 5, 6], [0, 1, 2, 3, 4, 5, 6, 7], [0, 1, 2, 3, 4, 5, 6, 7, 8], [0, 1, 2, 3, 4, 5, 6, 7, 8, 9]]) [⟨(some 79), none, .mv (.t 5)⟩,
            ⟨(some 80), none, .mv (.t 5)⟩,
            ⟨(some 81), none, .nilc (.t 80)⟩,
            ⟨(some 82), none, .fa 2 (.t 81)⟩,
            ⟨(some 83), none, .ld false 1 (.t 82)⟩,
            ⟨(some 84), none, .ld true 2 (.t 6)⟩,
            ⟨(some 85), none, .bsl 2 [(.t 84)]⟩,
            ⟨(some 86), none, .app 2 16 true (.t 83) (.t 85)⟩,
            ⟨(some 87), none, .nilc (.t 79)⟩,
            ⟨(some 88), none, .fa 2 (.t 87)⟩,
            ⟨none, none, .st 1 (.t 88) (.t 86)⟩] [0, 3, 5, 35, 36])))
        (.reg none [⟨(some 89), none, .mv (.t 3)⟩,
          ⟨(some 90), none, .mv (.t 5)⟩,
          ⟨(some 91), none, .nilc (.t 90)⟩,
          ⟨(some 92), none, .fa 0 (.t 91)⟩,
          ⟨(some 93), none, .ld false 1 (.t 92)⟩,
          ⟨(some 94), none, .bld [.r (.v (.int .i64 0)), .r (.v (.int .i64 0))] []⟩,
          ⟨(some 95), none, .ia 2 (.t 89) (.t 93)⟩,
          ⟨none, none, .st 2 (.t 95) (.t 94)⟩] [0, 3, 35, 36]))
       (.skip)))))))
    (.reg none [⟨(some 96), none, .bin .add .i (.t 36) (.k (V.i 1))⟩,
      ⟨(some 36), none, .mv (.t 96)⟩] [0, 3, 35, 36]))))))
  (.seq (.seq (.reg none [⟨(some 97), none, .mv (.t 0)⟩,
      ⟨(some 98), none, .nilc (.t 97)⟩,
      ⟨(some 99), none, .fa 2 (.t 98)⟩,
      ⟨(some 100), none, .ld false 1 (.t 99)⟩,
      ⟨(some 101), none, .len false (.t 100)⟩,
      ⟨(some 102), none, .mv (.k (V.i 0))⟩] [0, 3, 101, 102])
   (.bl 2 (.seq (.reg none [⟨(some 103), none, .bin .lss .i (.t 102) (.t 101)⟩] [0, 3, 101, 102, 103])
    (.seq (.cond (.t 103)
      (.skip)
      (.exit 2))
    (.seq (.block 3 (.seq (.reg none [⟨(some 104), none, .mv (.t 102)⟩,
         ⟨(some 7), none, .mv (.t 104)⟩] [0, 3, 7, 101, 102])
      (.seq (.reg none [⟨(some 105), none, .mv (.t 0)⟩,
         ⟨(some 106), none, .nilc (.t 105)⟩,
         ⟨(some 107), none, .fa 2 (.t 106)⟩,
         ⟨(some 108), none, .ld false 1 (.t 107)⟩,
         ⟨(some 109), none, .mv (.t 7)⟩,
         ⟨(some 110), none, .ia 2 (.t 108) (.t 109)⟩,
         ⟨(some 8), none, .mv (.t 110)⟩] [0, 3, 8, 101, 102])
      (.seq (.gh (.ga (.reg none [⟨(some 111), none, .mv (.t 8)⟩,
          ⟨(some 112), none, .nilc (.t 111)⟩,
          ⟨(some 113), none, .fa 1 (.t 112)⟩,
          ⟨(some 114), none, .ld false 1 (.t 113)⟩,
          ⟨(some 115), none, .len false (.t 114)⟩,
          ⟨(some 116), none, .bin .gtr .i (.t 115) (.k (V.i 0))⟩,
          ⟨(some 117), none, .mv (.t 116)⟩,
          ⟨(some 118), (some (117, true)), .mv (.t 3)⟩,
          ⟨(some 119), (some (117, true)), .mv (.t 8)⟩,
          ⟨(some 120), (some (117, true)), .nilc (.t 119)⟩,
          ⟨(some 121), (some (117, true)), .fa 0 (.t 120)⟩,
          ⟨(some 122), (some (117, true)), .ld false 1 (.t 121)⟩,
          ⟨(some 123), (some (117, true)), .ia 2 (.t 118) (.t 122)⟩,
          ⟨(some 124), (some (117, true)), .ld true 2 (.t 123)⟩,
          ⟨(some 125), (some (117, true)), .bld [.r (.v (.int .i64 0)), .r (.v (.int .i64 0))] []⟩,
          ⟨(some 126), (some (117, true)), .eqs false [.i, .i] (.t 124) (.t 125)⟩,
          ⟨(some 127), none, .pick (.t 117) (.t 126) (.k (V.b false))⟩] [0, 3, 8, 101, 102, 127])))
      (.cond (.t 127)
       (.seq (.gh (.ga (.reg (some [[], [], [1], [1, 2], [1, 2, 3], [], [5], [5, 6], [5, 6, 7], [5, 6, 7, 8], [5, 6, 7, 8, 9], [0, 1, 2, 3, 4, 5, 6, 7, 8, 9, 10], [0, 1, 2, 3, 4, 5, 6, 7, 8, 9, 10, 11]]) [⟨(some 128), none, .mv (.t 3)⟩,
            ⟨(some 129), none, .mv (.t 8)⟩,
            ⟨(some 130), none, .nilc (.t 129)⟩,
            ⟨(some 131), none, .fa 0 (.t 130)⟩,
            ⟨(some 132), none, .ld false 1 (.t 131)⟩,
            ⟨(some 133), none, .mv (.t 8)⟩,
            ⟨(some 134), none, .nilc (.t 133)⟩,
            ⟨(some 135), none, .fa 1 (.t 134)⟩,
            ⟨(some 136), none, .ld false 1 (.t 135)⟩,
            ⟨(some 137), none, .ia 2 (.t 136) (.k (V.i 0))⟩,
            ⟨(some 138), none, .ld true 2 (.t 137)⟩,
            ⟨(some 139), none, .ia 2 (.t 128) (.t 132)⟩,
            ⟨none, none, .st 2 (.t 139) (.t 138)⟩] [0, 3, 8, 101, 102])))
        (.gh (.ga (.reg none [⟨(some 140), none, .mv (.t 8)⟩,
           ⟨(some 141), none, .mv (.t 8)⟩,
           ⟨(some 142), none, .nilc (.t 141)⟩,
           ⟨(some 143), none, .fa 1 (.t 142)⟩,
           ⟨(some 144), none, .ld false 1 (.t 143)⟩,
           ⟨(some 145), none, .sl 2 (.t 144) (some (.k (V.i 1))) none⟩,
           ⟨(some 146), none, .call 109 true [(.t 145)]⟩,
           ⟨(some 147), none, .nilc (.t 140)⟩,
           ⟨(some 148), none, .fa 1 (.t 147)⟩,
           ⟨none, none, .st 1 (.t 148) (.t 146)⟩] [0, 3, 101, 102]))))
       (.skip))))))
    (.reg none [⟨(some 149), none, .bin .add .i (.t 102) (.k (V.i 1))⟩,
      ⟨(some 102), none, .mv (.t 149)⟩] [0, 3, 101, 102]))))))
  (.seq (.reg none [⟨(some 150), none, .mv (.t 0)⟩,
     ⟨(some 151), none, .mv (.t 3)⟩,
     ⟨(some 152), none, .nilc (.t 150)⟩,
     ⟨(some 153), none, .fa 0 (.t 152)⟩,
     ⟨none, none, .st 1 (.t 153) (.t 151)⟩] [0])
  (.reg none [⟨(some 154), none, .mv (.t 0)⟩,
    ⟨(some 155), none, .nilc (.t 154)⟩,
    ⟨(some 156), none, .fa 4 (.t 155)⟩,
    ⟨(some 157), none, .ld false 1 (.t 156)⟩,
    ⟨(some 158), none, .bin .add .i (.t 157) (.k (V.i 1))⟩,
    ⟨(some 159), none, .nilc (.t 154)⟩,
    ⟨(some 160), none, .fa 4 (.t 159)⟩,
    ⟨none, none, .st 1 (.t 160) (.t 158)⟩] [])))))
def rv95 : List RV := []
open Go.Proofs Go.IntWalk
set_option linter.unusedVariables false
set_option maxRecDepth 100000
set_option maxHeartbeats 4000000
def I_tick_l2 (g : G) (t : TE) : Nat → Int → List Inlet → List Item → Option ((List Inlet) × List Item)
  | 0, v2, w3, w4 =>
    some (w3, w4)
  | n2 + 1, v2, w3, w4 =>
    gd (((0 : Int) ≤ v2 ∧ v2 < (((g.dlen (t.d_Inlet w3)) : Nat) : Int))) <|
    gt w3 (g.nat v2) fun x7 =>
    br (g.lt 0 (g.int (g.dlen (t.d_Item x7.Wait))))
    (
     gd (((0 : Int) ≤ x7.Cell ∧ x7.Cell < (((g.dlen (t.d_Item w4)) : Nat) : Int))) <|
     gt w4 (g.nat x7.Cell) fun x8 =>
     br (g.all [(g.eq x8.Id 0), (g.eq x8.Dest 0)])
     (
      gd (((0 : Int) ≤ 0 ∧ 0 < (((g.dlen (t.d_Item x7.Wait)) : Nat) : Int))) <|
      gt x7.Wait (g.nat 0) fun x9 =>
      gd (((0 : Int) ≤ x7.Cell ∧ x7.Cell < (((g.dlen (t.d_Item w4)) : Nat) : Int))) <|
      lP (List.set w4 (g.nat x7.Cell) (Item.mk x9.Id x9.Dest)) fun (l7 : List Item) =>
      gd (((0 : Int) ≤ 1 ∧ 1 ≤ (g.int (g.dlen (t.d_Item x7.Wait))) ∧ (g.int (g.dlen (t.d_Item x7.Wait))) ≤ (((g.dlen (t.d_Item x7.Wait)) : Nat) : Int))) <|
      gd (((g.nat 1) + (g.nsub (g.nat (g.int (g.dlen (t.d_Item x7.Wait)))) (g.nat 1)) ≤ x7.Wait.length)) <|
      cl (I_copyItems g t (List.take (g.nsub (g.nat (g.int (g.dlen (t.d_Item x7.Wait)))) (g.nat 1)) (List.drop (g.nat 1) x7.Wait))) fun x10 =>
      lP (List.set w3 (g.nat v2) (Inlet.mk x7.Cell x10)) fun (l8 : List Inlet) =>
      I_tick_l2 g t n2 (g.wrap .i64 (g.add v2 1)) l8 l7)
     (
      I_tick_l2 g t n2 (g.wrap .i64 (g.add v2 1)) w3 w4))
    (
     I_tick_l2 g t n2 (g.wrap .i64 (g.add v2 1)) w3 w4)
def I_tick_l1 (g : G) (t : TE) (a0 : Centre) : Nat → Int → List Chute → List Item → Option ((List Chute) × List Item)
  | 0, v1, w1, w2 =>
    some (w1, w2)
  | n1 + 1, v1, w1, w2 =>
    gd (((0 : Int) ≤ v1 ∧ v1 < (((g.dlen (t.d_Chute w1)) : Nat) : Int))) <|
    gt w1 (g.nat v1) fun x2 =>
    gd (((0 : Int) ≤ x2.Cell ∧ x2.Cell < (((g.dlen (t.d_Item w2)) : Nat) : Int))) <|
    gt w2 (g.nat x2.Cell) fun x3 =>
    br (g.all [(g.eq x3.Id 0), (g.eq x3.Dest 0)])
    (
     I_tick_l1 g t a0 n1 (g.wrap .i64 (g.add v1 1)) w1 w2)
    (
     gd (((0 : Int) ≤ x3.Dest ∧ x3.Dest < (((g.dlen (t.d_I64 a0.Plan)) : Nat) : Int))) <|
     gt a0.Plan (g.nat x3.Dest) fun x4 =>
     br (g.eq x4 v1)
     (
      br (g.lt (g.int (g.dlen (t.d_Item x2.Held))) x2.Room)
      (
       lP ([x3]) fun (l3 : List Item) =>
       gd (((x2.Held.length + l3.length) * 16 ≤ 70368744177664)) <|
       lP (x2.Held ++ l3) fun (l4 : List Item) =>
       lP (List.set w1 (g.nat v1) (Chute.mk x2.Cell x2.Room l4)) fun (l5 : List Chute) =>
       gt l5 (g.nat v1) fun x5 =>
       gd (((0 : Int) ≤ x5.Cell ∧ x5.Cell < (((g.dlen (t.d_Item w2)) : Nat) : Int))) <|
       gt w2 (g.nat x5.Cell) fun x6 =>
       lP (List.set w2 (g.nat x5.Cell) (Item.mk 0 0)) fun (l6 : List Item) =>
       I_tick_l1 g t a0 n1 (g.wrap .i64 (g.add v1 1)) l5 l6)
      (
       I_tick_l1 g t a0 n1 (g.wrap .i64 (g.add v1 1)) w1 w2))
     (
      I_tick_l1 g t a0 n1 (g.wrap .i64 (g.add v1 1)) w1 w2))
def I_tick (g : G) (t : TE) (a0 : Centre) : Option Centre :=
  gd (((0 : Int) ≤ (g.wrap .i64 (g.sub (g.int (g.dlen (t.d_Item a0.Belt))) 1)) ∧ (g.wrap .i64 (g.sub (g.int (g.dlen (t.d_Item a0.Belt))) 1)) < (((g.dlen (t.d_Item a0.Belt)) : Nat) : Int))) <|
  gt a0.Belt (g.nat (g.wrap .i64 (g.sub (g.int (g.dlen (t.d_Item a0.Belt))) 1))) fun x1 =>
  lP ([x1]) fun (l1 : List Item) =>
  gd (((0 : Int) ≤ 0 ∧ 0 ≤ (g.wrap .i64 (g.sub (g.int (g.dlen (t.d_Item a0.Belt))) 1)) ∧ (g.wrap .i64 (g.sub (g.int (g.dlen (t.d_Item a0.Belt))) 1)) ≤ (((g.dlen (t.d_Item a0.Belt)) : Nat) : Int))) <|
  gd (((g.nat 0) + (g.nsub (g.nat (g.wrap .i64 (g.sub (g.int (g.dlen (t.d_Item a0.Belt))) 1))) (g.nat 0)) ≤ a0.Belt.length)) <|
  gd (((l1.length + (List.take (g.nsub (g.nat (g.wrap .i64 (g.sub (g.int (g.dlen (t.d_Item a0.Belt))) 1))) (g.nat 0)) (List.drop (g.nat 0) a0.Belt)).length) * 16 ≤ 70368744177664)) <|
  lP (l1 ++ (List.take (g.nsub (g.nat (g.wrap .i64 (g.sub (g.int (g.dlen (t.d_Item a0.Belt))) 1))) (g.nat 0)) (List.drop (g.nat 0) a0.Belt))) fun (l2 : List Item) =>
  gd (((g.int (g.dlen (t.d_Chute a0.Chutes))) ≤ 4611686018427387904)) <|
  cl (I_tick_l1 g t a0 (cntLt 0 (g.int (g.dlen (t.d_Chute a0.Chutes)))) 0 a0.Chutes l2) fun y1 =>
  gd (((g.int (g.dlen (t.d_Inlet a0.Inlets))) ≤ 4611686018427387904)) <|
  cl (I_tick_l2 g t (cntLt 0 (g.int (g.dlen (t.d_Inlet a0.Inlets)))) 0 a0.Inlets y1.2) fun y2 =>
  some (Centre.mk y2.2 y1.1 y2.1 a0.Plan (g.wrap .i64 (g.add a0.Now 1)))
theorem fit95 : codeFit Try.prog Try.f95.ntmps (Try.f95.body.getD .skip) ir95 = true := by kernel_rfl
theorem c_I_tick {g : G} {t : TE} {a0 : Centre} {r : Centre} (hg : g = G.real) (ht : t = TE.real) (h : I_tick g t a0 = some r) : FnM Try.prog 95 (.p (Centre.ds t a0)) [] (.u []) (.p (Centre.ds t r)) := by
  obtain ⟨X, hX⟩ := hide (.u [] : X)
  obtain ⟨Y, hY⟩ := hide (.p (Centre.ds t r) : AM)
  rw [← hX, ← hY]
  refine fnM_of (rvs := rv95) (j := ir95) Try.func95 rfl fit95 (Nat.le_of_ble_eq_true rfl) (by kernel_rfl) prog_mixed ?_
  intro g2 F hg2 hF
  obtain rfl : g2 = g := hg2.unique.trans hg.symm
  clear hg2
  obtain ⟨wrap, lt, le, eq, quo, rem, band, bor, bxor, shl, shr, nat, int, add, sub, mul, cat, seq, slt, sub3, byte, llen, nadd, nsub, dlen, dapp, dset, drep, rd, rda, up, rsub, dsub, all, sle, slen, hasI, putI, hasS, putS, imin, imax, fzc⟩ := g2
  obtain ⟨r_Item, d_Item, r_Chute, d_Chute, r_Inlet, d_Inlet, r_I64, d_I64, r_U8, d_U8, d_InletF⟩ := t
  obtain ⟨a0_Belt, a0_Chutes, a0_Inlets, a0_Plan, a0_Now⟩ := a0
  have hfr_Item : ∀ l, freshDss (d_Item l) = true := fresh_Item ht
  unfold I_tick at h
  try dsimp only at h
  cbv
  obtain ⟨hc1, h⟩ := of_gd h
  refine AStep.mk hc1 ?_
  cbv
  obtain ⟨x1, hx1, h⟩ := of_gt h
  obtain ⟨x1_Id, x1_Dest⟩ := x1
  try dsimp only at h
  refine AGet.mk _ (d_get_Item hg ht hx1) ?_
  cbv
  obtain ⟨l1, hl1, h⟩ := of_lP h
  try dsimp only at h
  refine ANew.mk (d_Item l1) (dlen (d_Item l1)) (by rw [← hl1]; exact lit_Item hg ht [(Item.mk x1_Id x1_Dest)]) (by rw [← hl1]; exact litn_Item hg ht [(Item.mk x1_Id x1_Dest)]) ?_
  cbv
  obtain ⟨hc2, h⟩ := of_gd h
  refine AStep.mk hc2 ?_
  cbv
  obtain ⟨hc14, h⟩ := of_gd h
  obtain ⟨hc15, h⟩ := of_gd h
  refine AStep.mk ⟨(subp_ok_Item hg ht hc14), (app_ok_Item hg ht (dlen_Item hg ht _) (dsub_Item hg ht _ _ _) hc15)⟩ ?_
  cbv
  obtain ⟨l2, hl2, h⟩ := of_lP h
  try dsimp only at h
  refine ANew.mk (d_Item l2) (dlen (d_Item l2)) (by rw [← hl2]; exact app_Item hg ht (dlen_Item hg ht _) (dsub_Item hg ht _ _ _)) (by rw [← hl2]; exact appl_Item hg ht (dlen_Item hg ht _) (dsub_Item hg ht _ _ _)) ?_
  cbv
  obtain ⟨hB1, h⟩ := of_gd h
  obtain ⟨o1, ho1, h⟩ := of_cl h
  try dsimp only at h
  try rw [hg] at ho1
  try rw [ht] at ho1
  refine ABL.mk { p : Nat × Int × (List Chute) × List Item // p.1 = cntLt p.2.1 (int (dlen (d_Chute a0_Chutes))) ∧ 0 ≤ p.2.1 ∧ I_tick_l1 G.real TE.real (Centre.mk a0_Belt a0_Chutes a0_Inlets a0_Plan a0_Now) p.1 p.2.1 p.2.2.1 p.2.2.2 = some o1 } (fun ⟨⟨n1, v1, w1, w2⟩, _⟩ => ({ sl := [(0, .c (.p 5 5 0 0)), (3, .c (.f 4 2 0 (dlen (d_Item w2)))), (35, .c (.r (.v (.int .i64 (int (dlen (d_Chute a0_Chutes))))))), (36, .c (.r (.v (.int .i64 v1))))], tab := [(0, some (.arr 2 (d_Item a0_Belt))), (1, some (.arr 3 (d_Chute w1))), (2, some (.arr 2 (d_Inlet a0_Inlets))), (3, some (.arr 1 (d_I64 a0_Plan))), (4, some (.arr 2 (d_Item w2))), (5, some (.foc 5 [] [.f 0 2 0 (dlen (d_Item a0_Belt)), .f 1 3 0 (dlen (d_Chute w1)), .f 2 2 0 (dlen (d_Inlet a0_Inlets)), .f 3 1 0 (dlen (d_I64 a0_Plan)), .r (.v (.int .i64 a0_Now))] []))] } : St)) 6 (fun p => p.1.1) ⟨(cntLt 0 (int (dlen (d_Chute a0_Chutes))), 0, a0_Chutes, l2), rfl, Int.le_refl _, ho1⟩ ((List Chute) × List Item) (fun ⟨y1_1, y1_2⟩ => ({ sl := [(0, .c (.p 5 5 0 0)), (3, .c (.f 4 2 0 (dlen (d_Item y1_2))))], tab := [(0, some (.arr 2 (d_Item a0_Belt))), (1, some (.arr 3 (d_Chute y1_1))), (2, some (.arr 2 (d_Inlet a0_Inlets))), (3, some (.arr 1 (d_I64 a0_Plan))), (4, some (.arr 2 (d_Item y1_2))), (5, some (.foc 5 [] [.f 0 2 0 (dlen (d_Item a0_Belt)), .f 1 3 0 (dlen (d_Chute y1_1)), .f 2 2 0 (dlen (d_Inlet a0_Inlets)), .f 3 1 0 (dlen (d_I64 a0_Plan)), .r (.v (.int .i64 a0_Now))] []))] } : St)) 6 (fun y => o1 = y) ?_ ?_ ?_
  · refine Wk.of [(0, some 0), (1, some 1), (2, some 2), (3, some 3), (4, some 358), (5, some 5)] rfl rfl ?_ ?_
    · cbv
      all_goals exact ⟨⟨_, rfl, rfl⟩, ⟨_, rfl, rfl⟩, ⟨_, rfl, rfl⟩, ⟨_, rfl, rfl⟩, trivial⟩
    · cbv
      all_goals exact ⟨⟨_, rfl, rfl⟩, ⟨_, rfl, rfl⟩, ⟨_, rfl, rfl⟩, ⟨_, rfl, rfl⟩, ⟨_, rfl, rfl⟩, ⟨_, rfl, _, rfl, rfl, rfl, rfl, rfl, rfl, trivial⟩, trivial⟩
  · rintro ⟨⟨n1, v1, w1, w2⟩, hn1, hi1, h_1⟩ hq1
    try dsimp only at hn1 hi1 h_1
    clear hq1
    cbv
    rcases n1 with _ | n1
    · have hb1 : lt v1 (int (dlen (d_Chute a0_Chutes))) = false := ltC_false hg hn1
      rw [I_tick_l1] at h_1
      try rw [← hg] at h_1
      try rw [← ht] at h_1
      try dsimp only at h_1
      rw [hb1]
      cbv
      refine ⟨(w1, w2), Wk.of [(0, some 0), (1, some 1), (2, some 2), (3, some 3), (4, some 4), (5, some 5)] rfl rfl ?_ ?_, (Option.some.inj h_1).symm⟩
      · cbv
        all_goals exact ⟨⟨_, rfl, rfl⟩, ⟨_, rfl, rfl⟩, trivial⟩
      · cbv
        all_goals exact ⟨⟨_, rfl, rfl⟩, ⟨_, rfl, rfl⟩, ⟨_, rfl, rfl⟩, ⟨_, rfl, rfl⟩, ⟨_, rfl, rfl⟩, ⟨_, rfl, _, rfl, rfl, rfl, rfl, rfl, rfl, trivial⟩, trivial⟩
    · have hb1 : lt v1 (int (dlen (d_Chute a0_Chutes))) = true := ltC_true hg hn1
      have hl1 := ltC_le hn1
      have hs1 := stepltC hg hn1 hi1 hB1 (by decide)
      rw [I_tick_l1] at h_1
      try rw [← hg] at h_1
      try rw [← ht] at h_1
      try dsimp only at h_1
      rw [hb1]
      cbv
      obtain ⟨hc3, h_1⟩ := of_gd h_1
      refine AStep.mk hc3 ?_
      cbv
      obtain ⟨x2, hx2, h_1⟩ := of_gt h_1
      obtain ⟨x2_Cell, x2_Room, x2_Held⟩ := x2
      try dsimp only at h_1
      refine AGet.mk _ (d_get_Chute hg ht hx2) ?_
      cbv
      obtain ⟨hc4, h_1⟩ := of_gd h_1
      refine AStep.mk hc4 ?_
      cbv
      obtain ⟨x3, hx3, h_1⟩ := of_gt h_1
      obtain ⟨x3_Id, x3_Dest⟩ := x3
      try dsimp only at h_1
      refine AGet.mk _ (d_get_Item hg ht hx3) ?_
      cbv
      refine AGh.opn 1 3 (nat v1) (d_Chute w1) _ rfl (d_get_Chute hg ht hx2) rfl ?_
      cbv
      refine AGh.nil ?_
      cbv
      cases hb2 : (all [(eq x3_Id 0), (eq x3_Dest 0)]) with
      | true =>
        rw [br_true hb2] at h_1
        cbv
        try (rw [hb2]; cbv)
        try (rw [hb2]; cbv)
        try (rw [hb2]; cbv)
        try (rw [hb2]; cbv)
        try (rw [hb2]; cbv)
        try (rw [hb2]; cbv)
        try (rw [hb2]; cbv)
        try (rw [hb2]; cbv)
        try (rw [hb2]; cbv)
        try (rw [hb2]; cbv)
        refine AGh.cls 1 3 (nat v1) (d_Chute w1) _ _ _ _ (d_Chute w1) rfl rfl ⟨rfl, (dlen_Item hg ht _)⟩ (dsets_Chute hg ht hx2) ?_
        cbv
        refine AGh.nil ?_
        cbv
        try rw [hg] at h_1
        try rw [ht] at h_1
        refine ⟨⟨(n1, (wrap .i64 (add v1 1)), w1, w2), hs1.1, hs1.2, h_1⟩, Wk.of [(0, some 0), (1, some 1), (2, some 2), (3, some 3), (4, some 4), (5, some 5)] rfl rfl ?_ ?_, Nat.lt_succ_self _⟩
        · cbv
          all_goals exact ⟨⟨_, rfl, rfl⟩, ⟨_, rfl, rfl⟩, ⟨_, rfl, rfl⟩, ⟨_, rfl, rfl⟩, trivial⟩
        · cbv
          all_goals exact ⟨⟨_, rfl, rfl⟩, ⟨_, rfl, rfl⟩, ⟨_, rfl, rfl⟩, ⟨_, rfl, rfl⟩, ⟨_, rfl, rfl⟩, ⟨_, rfl, _, rfl, rfl, rfl, rfl, rfl, rfl, trivial⟩, trivial⟩
      | false =>
        rw [br_false hb2] at h_1
        cbv
        try (rw [hb2]; cbv)
        try (rw [hb2]; cbv)
        try (rw [hb2]; cbv)
        try (rw [hb2]; cbv)
        try (rw [hb2]; cbv)
        try (rw [hb2]; cbv)
        obtain ⟨hc5, h_1⟩ := of_gd h_1
        refine AStep.mk hc5 ?_
        cbv
        try (rw [hb2]; cbv)
        obtain ⟨x4, hx4, h_1⟩ := of_gt h_1
        try dsimp only at h_1
        refine AGet.mk _ (d_get_I64 hg ht hx4) ?_
        cbv
        try (rw [hb2]; cbv)
        try (rw [hb2]; cbv)
        try (rw [hb2]; cbv)
        cases hb3 : (eq x4 v1) with
        | true =>
          rw [br_true hb3] at h_1
          cbv
          try (rw [hb3]; cbv)
          try (rw [hb3]; cbv)
          try (rw [hb3]; cbv)
          refine AStep.mk rfl ?_
          cbv
          try (rw [hb3]; cbv)
          try (rw [hb3]; cbv)
          try (rw [hb3]; cbv)
          try (rw [hb3]; cbv)
          try (rw [hb3]; cbv)
          refine AStep.mk rfl ?_
          cbv
          try (rw [hb3]; cbv)
          try (rw [hb3]; cbv)
          refine AGh.cls 1 3 (nat v1) (d_Chute w1) _ _ _ _ (d_Chute w1) rfl rfl ⟨rfl, (dlen_Item hg ht _)⟩ (dsets_Chute hg ht hx2) ?_
          cbv
          refine AGh.nil ?_
          cbv
          cases hb4 : (lt (int (dlen (d_Item x2_Held))) x2_Room) with
          | true =>
            rw [br_true hb4] at h_1
            cbv
            refine AGh.opn 1 3 (nat v1) (d_Chute w1) _ rfl (d_get_Chute hg ht hx2) rfl ?_
            cbv
            refine AGh.nil ?_
            cbv
            refine AStep.mk rfl ?_
            cbv
            obtain ⟨l3, hl3, h_1⟩ := of_lP h_1
            try dsimp only at h_1
            refine ANew.mk (d_Item l3) (dlen (d_Item l3)) (by rw [← hl3]; exact lit_Item hg ht [(Item.mk x3_Id x3_Dest)]) (by rw [← hl3]; exact litn_Item hg ht [(Item.mk x3_Id x3_Dest)]) ?_
            cbv
            obtain ⟨hc7, h_1⟩ := of_gd h_1
            refine AStep.mk ⟨⟨rfl, (dlen_Item hg ht _)⟩, (app_ok_Item hg ht (dlen_Item hg ht _) rfl hc7)⟩ ?_
            cbv
            obtain ⟨l4, hl4, h_1⟩ := of_lP h_1
            try dsimp only at h_1
            refine ANew.mk (d_Item l4) (dlen (d_Item l4)) (by rw [← hl4]; exact app_Item hg ht (dlen_Item hg ht _) rfl) (by rw [← hl4]; exact appl_Item hg ht (dlen_Item hg ht _) rfl) ?_
            cbv
            refine AStep.mk rfl ?_
            cbv
            obtain ⟨l5, hl5, h_1⟩ := of_lP h_1
            try dsimp only at h_1
            refine AGh.cls 1 3 (nat v1) (d_Chute w1) _ _ _ _ (d_Chute l5) rfl rfl ⟨rfl, (dlen_Item hg ht _)⟩ (by rw [← hl5]; exact dset_Chute hg ht _ _ (Chute.mk x2_Cell x2_Room l4)) ?_
            have hnl5 : (dlen (d_Chute w1)) = (d_Chute l5).length := (by rw [← hl5, dsetl_Chute ht]; exact (dlen_Chute hg ht _))
            cbv
            refine AGh.nil ?_
            cbv
            obtain ⟨x5, hx5, h_1⟩ := of_gt h_1
            obtain ⟨x5_Cell, x5_Room, x5_Held⟩ := x5
            try dsimp only at h_1
            refine AGet.mk _ (d_get_Chute hg ht hx5) ?_
            cbv
            obtain ⟨hc6, h_1⟩ := of_gd h_1
            refine AStep.mk hc6 ?_
            cbv
            obtain ⟨x6, hx6, h_1⟩ := of_gt h_1
            obtain ⟨x6_Id, x6_Dest⟩ := x6
            try dsimp only at h_1
            refine AGet.mk _ (d_get_Item hg ht hx6) ?_
            cbv
            obtain ⟨l6, hl6, h_1⟩ := of_lP h_1
            try dsimp only at h_1
            refine ANew.mk (d_Item l6) _ (by rw [← hl6]; exact dset_Item hg ht _ _ (Item.mk 0 0)) rfl ?_
            have hnl6 : (dlen (d_Item w2)) = (d_Item l6).length := (by rw [← hl6, dsetl_Item ht]; exact (dlen_Item hg ht _))
            cbv
            try rw [hg] at h_1
            try rw [ht] at h_1
            refine ⟨⟨(n1, (wrap .i64 (add v1 1)), l5, l6), hs1.1, hs1.2, h_1⟩, Wk.of [(0, some 0), (1, some 1), (2, some 2), (3, some 3), (4, some 4), (5, some 5)] rfl rfl ?_ ?_, Nat.lt_succ_self _⟩
            · cbv
              all_goals try rw [show (dlen (d_Chute w1)) = (dlen (d_Chute l5)) from (hnl5).trans (dlen_Chute hg ht _).symm]
              all_goals try rw [show (dlen (d_Item w2)) = (dlen (d_Item l6)) from (hnl6).trans (dlen_Item hg ht _).symm]
              all_goals exact ⟨⟨_, rfl, rfl⟩, ⟨_, rfl, rfl⟩, ⟨_, rfl, rfl⟩, ⟨_, rfl, rfl⟩, trivial⟩
            · cbv
              all_goals try rw [show (dlen (d_Chute w1)) = (dlen (d_Chute l5)) from (hnl5).trans (dlen_Chute hg ht _).symm]
              all_goals try rw [show (dlen (d_Item w2)) = (dlen (d_Item l6)) from (hnl6).trans (dlen_Item hg ht _).symm]
              all_goals exact ⟨⟨_, rfl, rfl⟩, ⟨_, rfl, rfl⟩, ⟨_, rfl, rfl⟩, ⟨_, rfl, rfl⟩, ⟨_, rfl, rfl⟩, ⟨_, rfl, _, rfl, rfl, rfl, rfl, rfl, rfl, trivial⟩, trivial⟩
          | false =>
            rw [br_false hb4] at h_1
            cbv
            try rw [hg] at h_1
            try rw [ht] at h_1
            refine ⟨⟨(n1, (wrap .i64 (add v1 1)), w1, w2), hs1.1, hs1.2, h_1⟩, Wk.of [(0, some 0), (1, some 1), (2, some 2), (3, some 3), (4, some 4), (5, some 5)] rfl rfl ?_ ?_, Nat.lt_succ_self _⟩
            · cbv
              all_goals exact ⟨⟨_, rfl, rfl⟩, ⟨_, rfl, rfl⟩, ⟨_, rfl, rfl⟩, ⟨_, rfl, rfl⟩, trivial⟩
            · cbv
              all_goals exact ⟨⟨_, rfl, rfl⟩, ⟨_, rfl, rfl⟩, ⟨_, rfl, rfl⟩, ⟨_, rfl, rfl⟩, ⟨_, rfl, rfl⟩, ⟨_, rfl, _, rfl, rfl, rfl, rfl, rfl, rfl, trivial⟩, trivial⟩
        | false =>
          rw [br_false hb3] at h_1
          cbv
          try (rw [hb3]; cbv)
          try (rw [hb3]; cbv)
          try (rw [hb3]; cbv)
          try (rw [hb3]; cbv)
          try (rw [hb3]; cbv)
          try (rw [hb3]; cbv)
          try (rw [hb3]; cbv)
          try (rw [hb3]; cbv)
          try (rw [hb3]; cbv)
          try (rw [hb3]; cbv)
          refine AGh.cls 1 3 (nat v1) (d_Chute w1) _ _ _ _ (d_Chute w1) rfl rfl ⟨rfl, (dlen_Item hg ht _)⟩ (dsets_Chute hg ht hx2) ?_
          cbv
          refine AGh.nil ?_
          cbv
          try rw [hg] at h_1
          try rw [ht] at h_1
          refine ⟨⟨(n1, (wrap .i64 (add v1 1)), w1, w2), hs1.1, hs1.2, h_1⟩, Wk.of [(0, some 0), (1, some 1), (2, some 2), (3, some 3), (4, some 4), (5, some 5)] rfl rfl ?_ ?_, Nat.lt_succ_self _⟩
          · cbv
            all_goals exact ⟨⟨_, rfl, rfl⟩, ⟨_, rfl, rfl⟩, ⟨_, rfl, rfl⟩, ⟨_, rfl, rfl⟩, trivial⟩
          · cbv
            all_goals exact ⟨⟨_, rfl, rfl⟩, ⟨_, rfl, rfl⟩, ⟨_, rfl, rfl⟩, ⟨_, rfl, rfl⟩, ⟨_, rfl, rfl⟩, ⟨_, rfl, _, rfl, rfl, rfl, rfl, rfl, rfl, trivial⟩, trivial⟩
  · rintro ⟨y1_1, y1_2⟩ hy1
    replace hy1 := hy1.symm
    subst hy1
    try dsimp only [lr, lrL, lrp, lrpL] at h
    cbv
    obtain ⟨hB2, h⟩ := of_gd h
    obtain ⟨o2, ho2, h⟩ := of_cl h
    try dsimp only at h
    try rw [hg] at ho2
    try rw [ht] at ho2
    refine ABL.mk { p : Nat × Int × (List Inlet) × List Item // p.1 = cntLt p.2.1 (int (dlen (d_Inlet a0_Inlets))) ∧ 0 ≤ p.2.1 ∧ I_tick_l2 G.real TE.real p.1 p.2.1 p.2.2.1 p.2.2.2 = some o2 } (fun ⟨⟨n2, v2, w3, w4⟩, _⟩ => ({ sl := [(0, .c (.p 5 5 0 0)), (3, .c (.f 4 2 0 (dlen (d_Item w4)))), (101, .c (.r (.v (.int .i64 (int (dlen (d_Inlet a0_Inlets))))))), (102, .c (.r (.v (.int .i64 v2))))], tab := [(0, some (.arr 2 (d_Item a0_Belt))), (1, some (.arr 3 (d_Chute y1_1))), (2, some (.arr 2 (d_Inlet w3))), (3, some (.arr 1 (d_I64 a0_Plan))), (4, some (.arr 2 (d_Item w4))), (5, some (.foc 5 [] [.f 0 2 0 (dlen (d_Item a0_Belt)), .f 1 3 0 (dlen (d_Chute y1_1)), .f 2 2 0 (dlen (d_Inlet w3)), .f 3 1 0 (dlen (d_I64 a0_Plan)), .r (.v (.int .i64 a0_Now))] []))] } : St)) 6 (fun p => p.1.1) ⟨(cntLt 0 (int (dlen (d_Inlet a0_Inlets))), 0, a0_Inlets, y1_2), rfl, Int.le_refl _, ho2⟩ ((List Inlet) × List Item) (fun ⟨y2_1, y2_2⟩ => ({ sl := [(0, .c (.p 5 5 0 0)), (3, .c (.f 4 2 0 (dlen (d_Item y2_2))))], tab := [(0, some (.arr 2 (d_Item a0_Belt))), (1, some (.arr 3 (d_Chute y1_1))), (2, some (.arr 2 (d_Inlet y2_1))), (3, some (.arr 1 (d_I64 a0_Plan))), (4, some (.arr 2 (d_Item y2_2))), (5, some (.foc 5 [] [.f 0 2 0 (dlen (d_Item a0_Belt)), .f 1 3 0 (dlen (d_Chute y1_1)), .f 2 2 0 (dlen (d_Inlet y2_1)), .f 3 1 0 (dlen (d_I64 a0_Plan)), .r (.v (.int .i64 a0_Now))] []))] } : St)) 6 (fun y => o2 = y) ?_ ?_ ?_
    · refine Wk.of [(0, some 0), (1, some 1), (2, some 2), (3, some 3), (4, some 4), (5, some 5)] rfl rfl ?_ ?_
      · cbv
        all_goals exact ⟨⟨_, rfl, rfl⟩, ⟨_, rfl, rfl⟩, ⟨_, rfl, rfl⟩, ⟨_, rfl, rfl⟩, trivial⟩
      · cbv
        all_goals exact ⟨⟨_, rfl, rfl⟩, ⟨_, rfl, rfl⟩, ⟨_, rfl, rfl⟩, ⟨_, rfl, rfl⟩, ⟨_, rfl, rfl⟩, ⟨_, rfl, _, rfl, rfl, rfl, rfl, rfl, rfl, trivial⟩, trivial⟩
    · rintro ⟨⟨n2, v2, w3, w4⟩, hn2, hi2, h_2⟩ hq2
      try dsimp only at hn2 hi2 h_2
      clear hq2
      cbv
      rcases n2 with _ | n2
      · have hb5 : lt v2 (int (dlen (d_Inlet a0_Inlets))) = false := ltC_false hg hn2
        rw [I_tick_l2] at h_2
        try rw [← hg] at h_2
        try rw [← ht] at h_2
        try dsimp only at h_2
        rw [hb5]
        cbv
        refine ⟨(w3, w4), Wk.of [(0, some 0), (1, some 1), (2, some 2), (3, some 3), (4, some 4), (5, some 5)] rfl rfl ?_ ?_, (Option.some.inj h_2).symm⟩
        · cbv
          all_goals exact ⟨⟨_, rfl, rfl⟩, ⟨_, rfl, rfl⟩, trivial⟩
        · cbv
          all_goals exact ⟨⟨_, rfl, rfl⟩, ⟨_, rfl, rfl⟩, ⟨_, rfl, rfl⟩, ⟨_, rfl, rfl⟩, ⟨_, rfl, rfl⟩, ⟨_, rfl, _, rfl, rfl, rfl, rfl, rfl, rfl, trivial⟩, trivial⟩
      · have hb5 : lt v2 (int (dlen (d_Inlet a0_Inlets))) = true := ltC_true hg hn2
        have hl2 := ltC_le hn2
        have hs2 := stepltC hg hn2 hi2 hB2 (by decide)
        rw [I_tick_l2] at h_2
        try rw [← hg] at h_2
        try rw [← ht] at h_2
        try dsimp only at h_2
        rw [hb5]
        cbv
        obtain ⟨hc8, h_2⟩ := of_gd h_2
        refine AStep.mk hc8 ?_
        cbv
        obtain ⟨x7, hx7, h_2⟩ := of_gt h_2
        obtain ⟨x7_Cell, x7_Wait⟩ := x7
        try dsimp only at h_2
        refine AGh.opn 2 2 (nat v2) (d_Inlet w3) _ rfl (d_get_Inlet hg ht hx7) rfl ?_
        cbv
        refine AGh.nil ?_
        cbv
        refine AStep.mk rfl ?_
        cbv
        cases hb6 : (lt 0 (int (dlen (d_Item x7_Wait)))) with
        | true =>
          rw [br_true hb6] at h_2
          cbv
          try (rw [hb6]; cbv)
          try (rw [hb6]; cbv)
          try (rw [hb6]; cbv)
          try (rw [hb6]; cbv)
          refine AStep.mk rfl ?_
          cbv
          try (rw [hb6]; cbv)
          obtain ⟨hc9, h_2⟩ := of_gd h_2
          refine AStep.mk hc9 ?_
          cbv
          try (rw [hb6]; cbv)
          obtain ⟨x8, hx8, h_2⟩ := of_gt h_2
          obtain ⟨x8_Id, x8_Dest⟩ := x8
          try dsimp only at h_2
          refine AGet.mk _ (d_get_Item hg ht hx8) ?_
          cbv
          try (rw [hb6]; cbv)
          try (rw [hb6]; cbv)
          try (rw [hb6]; cbv)
          refine AGh.cls 2 2 (nat v2) (d_Inlet w3) _ _ _ _ (d_Inlet w3) rfl rfl ⟨rfl, (dlen_Item hg ht _)⟩ (dsets_Inlet hg ht hx7) ?_
          cbv
          refine AGh.nil ?_
          cbv
          cases hb7 : (all [(eq x8_Id 0), (eq x8_Dest 0)]) with
          | true =>
            rw [br_true hb7] at h_2
            cbv
            refine AGh.opn 2 2 (nat v2) (d_Inlet w3) _ rfl (d_get_Inlet hg ht hx7) rfl ?_
            cbv
            refine AGh.nil ?_
            cbv
            refine AStep.mk rfl ?_
            cbv
            refine AStep.mk rfl ?_
            cbv
            obtain ⟨hc10, h_2⟩ := of_gd h_2
            refine AStep.mk hc10 ?_
            cbv
            obtain ⟨x9, hx9, h_2⟩ := of_gt h_2
            obtain ⟨x9_Id, x9_Dest⟩ := x9
            try dsimp only at h_2
            refine AGet.mk _ (d_get_Item hg ht hx9) ?_
            cbv
            obtain ⟨hc11, h_2⟩ := of_gd h_2
            refine AStep.mk hc11 ?_
            cbv
            refine AGet.mk _ (d_get_Item hg ht hx8) ?_
            cbv
            obtain ⟨l7, hl7, h_2⟩ := of_lP h_2
            try dsimp only at h_2
            refine ANew.mk (d_Item l7) _ (by rw [← hl7]; exact dset_Item hg ht _ _ (Item.mk x9_Id x9_Dest)) rfl ?_
            have hnl7 : (dlen (d_Item w4)) = (d_Item l7).length := (by rw [← hl7, dsetl_Item ht]; exact (dlen_Item hg ht _))
            cbv
            refine AGh.cls 2 2 (nat v2) (d_Inlet w3) _ _ _ _ (d_Inlet w3) rfl rfl ⟨rfl, (dlen_Item hg ht _)⟩ (dsets_Inlet hg ht hx7) ?_
            cbv
            refine AGh.nil ?_
            cbv
            refine AGh.opn 2 2 (nat v2) (d_Inlet w3) _ rfl (d_get_Inlet hg ht hx7) rfl ?_
            cbv
            refine AGh.nil ?_
            cbv
            refine AStep.mk rfl ?_
            cbv
            obtain ⟨hc12, h_2⟩ := of_gd h_2
            refine AStep.mk hc12 ?_
            cbv
            obtain ⟨hc13, h_2⟩ := of_gd h_2
            refine AStep.mk (lendp_Item ht hc13) ?_
            cbv
            obtain ⟨x10, hx10, h_2⟩ := of_cl h_2
            try dsimp only at h_2
            refine ACall.mk _ _ (by rw [show rd (d_Item x7_Wait) (nat 1) (nsub (nat (int (dlen (d_Item x7_Wait)))) (nat 1)) = r_Item (List.take (nsub (nat (int (dlen (d_Item x7_Wait)))) (nat 1)) (List.drop (nat 1) x7_Wait)) from rd_Item hg ht _ _ _]; try rfl) (hF _ _ _ (c_I_copyItems hg ht hx10)) (.inr (by simp only [Go.Vs.X.fresh, Go.Vs.X.freshs, freshD, freshDs, Bool.and_self, hfr_Item])) (Nat.le_of_ble_eq_true rfl) ?_
            cbv
            refine AStep.mk rfl ?_
            cbv
            obtain ⟨l8, hl8, h_2⟩ := of_lP h_2
            try dsimp only at h_2
            refine AGh.cls 2 2 (nat v2) (d_Inlet w3) _ _ _ _ (d_Inlet l8) rfl rfl ⟨rfl, (dlen_Item hg ht _)⟩ (by rw [← hl8]; exact dset_Inlet hg ht _ _ (Inlet.mk x7_Cell x10)) ?_
            have hnl8 : (dlen (d_Inlet w3)) = (d_Inlet l8).length := (by rw [← hl8, dsetl_Inlet ht]; exact (dlen_Inlet hg ht _))
            cbv
            refine AGh.nil ?_
            cbv
            try rw [hg] at h_2
            try rw [ht] at h_2
            refine ⟨⟨(n2, (wrap .i64 (add v2 1)), l8, l7), hs2.1, hs2.2, h_2⟩, Wk.of [(0, some 0), (1, some 1), (2, some 2), (3, some 3), (4, some 4), (5, some 5)] rfl rfl ?_ ?_, Nat.lt_succ_self _⟩
            · cbv
              all_goals try rw [show (dlen (d_Inlet w3)) = (dlen (d_Inlet l8)) from (hnl8).trans (dlen_Inlet hg ht _).symm]
              all_goals try rw [show (dlen (d_Item w4)) = (dlen (d_Item l7)) from (hnl7).trans (dlen_Item hg ht _).symm]
              all_goals exact ⟨⟨_, rfl, rfl⟩, ⟨_, rfl, rfl⟩, ⟨_, rfl, rfl⟩, ⟨_, rfl, rfl⟩, trivial⟩
            · cbv
              all_goals try rw [show (dlen (d_Inlet w3)) = (dlen (d_Inlet l8)) from (hnl8).trans (dlen_Inlet hg ht _).symm]
              all_goals try rw [show (dlen (d_Item w4)) = (dlen (d_Item l7)) from (hnl7).trans (dlen_Item hg ht _).symm]
              all_goals exact ⟨⟨_, rfl, rfl⟩, ⟨_, rfl, rfl⟩, ⟨_, rfl, rfl⟩, ⟨_, rfl, rfl⟩, ⟨_, rfl, rfl⟩, ⟨_, rfl, _, rfl, rfl, rfl, rfl, rfl, rfl, trivial⟩, trivial⟩
          | false =>
            rw [br_false hb7] at h_2
            cbv
            try rw [hg] at h_2
            try rw [ht] at h_2
            refine ⟨⟨(n2, (wrap .i64 (add v2 1)), w3, w4), hs2.1, hs2.2, h_2⟩, Wk.of [(0, some 0), (1, some 1), (2, some 2), (3, some 3), (4, some 4), (5, some 5)] rfl rfl ?_ ?_, Nat.lt_succ_self _⟩
            · cbv
              all_goals exact ⟨⟨_, rfl, rfl⟩, ⟨_, rfl, rfl⟩, ⟨_, rfl, rfl⟩, ⟨_, rfl, rfl⟩, trivial⟩
            · cbv
              all_goals exact ⟨⟨_, rfl, rfl⟩, ⟨_, rfl, rfl⟩, ⟨_, rfl, rfl⟩, ⟨_, rfl, rfl⟩, ⟨_, rfl, rfl⟩, ⟨_, rfl, _, rfl, rfl, rfl, rfl, rfl, rfl, trivial⟩, trivial⟩
        | false =>
          rw [br_false hb6] at h_2
          cbv
          try (rw [hb6]; cbv)
          try (rw [hb6]; cbv)
          try (rw [hb6]; cbv)
          try (rw [hb6]; cbv)
          try (rw [hb6]; cbv)
          try (rw [hb6]; cbv)
          try (rw [hb6]; cbv)
          try (rw [hb6]; cbv)
          try (rw [hb6]; cbv)
          refine AGh.cls 2 2 (nat v2) (d_Inlet w3) _ _ _ _ (d_Inlet w3) rfl rfl ⟨rfl, (dlen_Item hg ht _)⟩ (dsets_Inlet hg ht hx7) ?_
          cbv
          refine AGh.nil ?_
          cbv
          try rw [hg] at h_2
          try rw [ht] at h_2
          refine ⟨⟨(n2, (wrap .i64 (add v2 1)), w3, w4), hs2.1, hs2.2, h_2⟩, Wk.of [(0, some 0), (1, some 1), (2, some 2), (3, some 3), (4, some 4), (5, some 5)] rfl rfl ?_ ?_, Nat.lt_succ_self _⟩
          · cbv
            all_goals exact ⟨⟨_, rfl, rfl⟩, ⟨_, rfl, rfl⟩, ⟨_, rfl, rfl⟩, ⟨_, rfl, rfl⟩, trivial⟩
          · cbv
            all_goals exact ⟨⟨_, rfl, rfl⟩, ⟨_, rfl, rfl⟩, ⟨_, rfl, rfl⟩, ⟨_, rfl, rfl⟩, ⟨_, rfl, rfl⟩, ⟨_, rfl, _, rfl, rfl, rfl, rfl, rfl, rfl, trivial⟩, trivial⟩
    · rintro ⟨y2_1, y2_2⟩ hy2
      replace hy2 := hy2.symm
      subst hy2
      try dsimp only [lr, lrL, lrp, lrpL] at h
      cbv
      obtain rfl := Option.some.inj h
      exact ARetM.mk ⟨⟨rfl, (dlen_Item hg ht _)⟩, ⟨⟨rfl, (dlen_Chute hg ht _)⟩, ⟨⟨rfl, (dlen_Inlet hg ht _)⟩, ⟨rfl, (dlen_I64 hg ht _)⟩⟩⟩⟩ hX.symm hY.symm
end Go.Vs
namespace Go.Vs
set_option maxRecDepth 100000
def ir36 : J :=
  .seq (.reg none [⟨(some 2), none, .box (.t 0)⟩,
     ⟨(some 4), none, .alloc [.n 2, .n 3, .n 2, .n 1, .r (.v (.int .i64 0))]⟩] [1, 2, 4])
  (.seq (.reg none [⟨(some 7), none, .ld true 5 (.t 2)⟩,
     ⟨(some 8), none, .call 94 true [(.t 7)]⟩,
     ⟨(some 5), none, .alloc [.n 2, .n 3, .n 2, .n 1, .r (.v (.int .i64 0))]⟩,
     ⟨none, none, .st 5 (.t 5) (.t 8)⟩] [1, 2, 4, 5])
  (.seq (.seq (.reg none [⟨(some 9), none, .ld true 5 (.t 2)⟩,
      ⟨(some 10), none, .call 32 true [(.t 9)]⟩,
      ⟨(some 11), none, .not (.t 10)⟩,
      ⟨(some 12), none, .mv (.t 11)⟩,
      ⟨(some 13), (some (12, false)), .mv (.t 1)⟩,
      ⟨(some 14), (some (12, false)), .call 89 true [(.t 13), (.k (V.i 0)), (.k (V.i 1000))]⟩,
      ⟨(some 15), (some (12, false)), .not (.t 14)⟩,
      ⟨(some 16), none, .pick (.t 12) (.k (V.b true)) (.t 15)⟩,
      ⟨(some 17), none, .mv (.t 16)⟩,
      ⟨(some 18), (some (17, false)), .fa 4 (.t 2)⟩,
      ⟨(some 19), (some (17, false)), .ld false 1 (.t 18)⟩,
      ⟨(some 20), (some (17, false)), .mv (.t 1)⟩,
      ⟨(some 21), (some (17, false)), .bin .add .i (.t 19) (.t 20)⟩,
      ⟨(some 22), (some (17, false)), .bin .gtr .i (.t 21) (.k (V.i 100000))⟩,
      ⟨(some 23), none, .pick (.t 17) (.k (V.b true)) (.t 22)⟩] [1, 4, 5, 23])
   (.cond (.t 23)
    (.seq (.reg none [⟨(some 24), none, .ld true 5 (.t 5)⟩,
        ⟨none, none, .st 5 (.t 4) (.t 24)⟩] [4])
     (.ret))
    (.skip)))
  (.seq (.seq (.reg none [⟨(some 6), none, .mv (.k (V.i 0))⟩] [1, 4, 5, 6])
   (.bl 0 (.seq (.seq (.reg none [⟨(some 25), none, .mv (.t 6)⟩,
        ⟨(some 26), none, .mv (.t 1)⟩,
        ⟨(some 27), none, .bin .lss .i (.t 25) (.t 26)⟩] [1, 4, 5, 6, 27])
     (.cond (.t 27)
      (.skip)
      (.exit 0)))
    (.seq (.block 1 (.reg none [⟨(some 30), none, .callm 95 (.t 5) []⟩] [1, 4, 5, 6]))
    (.reg none [⟨(some 28), none, .mv (.t 6)⟩,
      ⟨(some 29), none, .bin .add .i (.t 28) (.k (V.i 1))⟩,
      ⟨(some 6), none, .mv (.t 29)⟩] [1, 4, 5, 6])))))
  (.seq (.reg none [⟨(some 31), none, .ld true 5 (.t 5)⟩,
     ⟨none, none, .st 5 (.t 4) (.t 31)⟩] [4])
  (.ret)))))
def rv36 : List RV := [.c 4 true 5]
open Go.Proofs Go.IntWalk
set_option linter.unusedVariables false
set_option maxRecDepth 100000
set_option maxHeartbeats 4000000
def I_RunCentre_l1 (g : G) (t : TE) : Nat → List Item → List Chute → List Inlet → List Int → Int → Option ((List Item) × (List Chute) × (List Inlet) × (List Int) × Int)
  | 0, w1, w2, w3, w4, v1 =>
    some (w1, w2, w3, w4, v1)
  | n1 + 1, w1, w2, w3, w4, v1 =>
    cl (I_tick g t (Centre.mk w1 w2 w3 w4 v1)) fun x4 =>
    I_RunCentre_l1 g t n1 x4.Belt x4.Chutes x4.Inlets x4.Plan x4.Now
def I_RunCentre (g : G) (t : TE) (a0 : Centre) (a1 : Int) : Option Centre :=
  cl (I_copyCentre g t a0) fun x1 =>
  cl (I_IsCentre g t a0) fun x2 =>
  br x2
  (
   lP (I_within g t a1 0 1000) fun x3 =>
   br x3
   (
    br (g.lt 100000 (g.wrap .i64 (g.add a0.Now a1)))
    (
     some x1)
    (
     gd ((a1 ≤ 4611686018427387904)) <|
     cl (I_RunCentre_l1 g t (cntLt 0 a1) x1.Belt x1.Chutes x1.Inlets x1.Plan x1.Now) fun y1 =>
     some (Centre.mk y1.1 y1.2.1 y1.2.2.1 y1.2.2.2.1 y1.2.2.2.2)))
   (
    some x1))
  (
   some x1)
theorem fit36 : codeFit Try.prog Try.f36.ntmps (Try.f36.body.getD .skip) ir36 = true := by kernel_rfl
theorem c_I_RunCentre {g : G} {t : TE} {a0 : Centre} {a1 : Int} {r : Centre} (hg : g = G.real) (ht : t = TE.real) (h : I_RunCentre g t a0 a1 = some r) : Fn Try.prog 36 [.g (Centre.rs t a0), .c (.v (.int .i64 a1))] (.g (Centre.ds t r)) := by
  obtain ⟨X, hX⟩ := hide (.g (Centre.ds t r) : X)
  rw [← hX]
  refine fn_of (rvs := rv36) (j := ir36) Try.func36 rfl fit36 (Nat.le_of_ble_eq_true rfl) (by kernel_rfl) prog_mixed ?_
  intro g2 F hg2 hF
  obtain rfl : g2 = g := hg2.unique.trans hg.symm
  clear hg2
  obtain ⟨wrap, lt, le, eq, quo, rem, band, bor, bxor, shl, shr, nat, int, add, sub, mul, cat, seq, slt, sub3, byte, llen, nadd, nsub, dlen, dapp, dset, drep, rd, rda, up, rsub, dsub, all, sle, slen, hasI, putI, hasS, putS, imin, imax, fzc⟩ := g2
  obtain ⟨r_Item, d_Item, r_Chute, d_Chute, r_Inlet, d_Inlet, r_I64, d_I64, r_U8, d_U8, d_InletF⟩ := t
  obtain ⟨a0_Belt, a0_Chutes, a0_Inlets, a0_Plan, a0_Now⟩ := a0
  unfold I_RunCentre at h
  try dsimp only at h
  cbv
  obtain ⟨x1, hx1, h⟩ := of_cl h
  obtain ⟨x1_Belt, x1_Chutes, x1_Inlets, x1_Plan, x1_Now⟩ := x1
  try dsimp only at h
  refine ACall.mk _ _ rfl (hF _ _ _ (c_I_copyCentre hg ht hx1)) (.inl rfl) (Nat.le_of_ble_eq_true rfl) ?_
  cbv
  obtain ⟨x2, hx2, h⟩ := of_cl h
  try dsimp only at h
  refine ACall.mk _ _ rfl (hF _ _ _ (c_I_IsCentre hg ht hx2)) (.inl rfl) (Nat.le_of_ble_eq_true rfl) ?_
  cbv
  cases hb1 : x2 with
  | true =>
    rw [br_true hb1] at h
    cbv
    try (rw [hb1]; cbv)
    obtain ⟨x3, hx3, h⟩ := of_lP h
    try dsimp only at h
    refine ACall.mk _ _ rfl (hF _ _ _ (c_I_within hg ht hx3)) (.inl rfl) (Nat.le_of_ble_eq_true rfl) ?_
    cbv
    try (rw [hb1]; cbv)
    try (rw [hb1]; cbv)
    cases hb2 : x3 with
    | true =>
      rw [br_true hb2] at h
      cbv
      try (rw [hb2]; cbv)
      try (rw [hb2]; cbv)
      try (rw [hb2]; cbv)
      try (rw [hb2]; cbv)
      try (rw [hb2]; cbv)
      cases hb3 : (lt 100000 (wrap .i64 (add a0_Now a1))) with
      | true =>
        rw [br_true hb3] at h
        cbv
        obtain rfl := Option.some.inj h
        exact ARet.mk ⟨⟨rfl, (dlen_Item hg ht _)⟩, ⟨⟨rfl, (dlen_Chute hg ht _)⟩, ⟨⟨rfl, (dlen_Inlet hg ht _)⟩, ⟨rfl, (dlen_I64 hg ht _)⟩⟩⟩⟩ hX.symm
      | false =>
        rw [br_false hb3] at h
        cbv
        obtain ⟨hB1, h⟩ := of_gd h
        obtain ⟨o1, ho1, h⟩ := of_cl h
        try dsimp only at h
        try rw [hg] at ho1
        try rw [ht] at ho1
        refine ABL.mk { p : Nat × Int × (List Item) × (List Chute) × (List Inlet) × (List Int) × Int // p.1 = cntLt p.2.1 a1 ∧ 0 ≤ p.2.1 ∧ I_RunCentre_l1 G.real TE.real p.1 p.2.2.1 p.2.2.2.1 p.2.2.2.2.1 p.2.2.2.2.2.1 p.2.2.2.2.2.2 = some o1 } (fun ⟨⟨n1, v2, w1, w2, w3, w4, v1⟩, _⟩ => ({ sl := [(1, .c (.r (.v (.int .i64 a1)))), (4, .c (.p 0 5 0 0)), (5, .c (.p 1 5 0 0)), (6, .c (.r (.v (.int .i64 v2))))], tab := [(0, some (.foc 5 [] [.n 2, .n 3, .n 2, .n 1, .r (.v (.int .i64 0))] [])), (1, some (.foc 5 [] [.f 2 2 0 (dlen (d_Item w1)), .f 3 3 0 (dlen (d_Chute w2)), .f 4 2 0 (dlen (d_Inlet w3)), .f 5 1 0 (dlen (d_I64 w4)), .r (.v (.int .i64 v1))] [])), (2, some (.arr 2 (d_Item w1))), (3, some (.arr 3 (d_Chute w2))), (4, some (.arr 2 (d_Inlet w3))), (5, some (.arr 1 (d_I64 w4)))] } : St)) 6 (fun p => p.1.1) ⟨(cntLt 0 a1, 0, x1_Belt, x1_Chutes, x1_Inlets, x1_Plan, x1_Now), rfl, Int.le_refl _, ho1⟩ ((List Item) × (List Chute) × (List Inlet) × (List Int) × Int) (fun ⟨y1_1, y1_2_1, y1_2_2_1, y1_2_2_2_1, y1_2_2_2_2⟩ => ({ sl := [(4, .c (.p 0 5 0 0)), (5, .c (.p 1 5 0 0))], tab := [(0, some (.foc 5 [] [.n 2, .n 3, .n 2, .n 1, .r (.v (.int .i64 0))] [])), (1, some (.foc 5 [] [.f 2 2 0 (dlen (d_Item y1_1)), .f 3 3 0 (dlen (d_Chute y1_2_1)), .f 4 2 0 (dlen (d_Inlet y1_2_2_1)), .f 5 1 0 (dlen (d_I64 y1_2_2_2_1)), .r (.v (.int .i64 y1_2_2_2_2))] [])), (2, some (.arr 2 (d_Item y1_1))), (3, some (.arr 3 (d_Chute y1_2_1))), (4, some (.arr 2 (d_Inlet y1_2_2_1))), (5, some (.arr 1 (d_I64 y1_2_2_2_1)))] } : St)) 6 (fun y => o1 = y) ?_ ?_ ?_
        · refine Wk.of [(0, some 16), (1, some 64), (2, some 48), (3, some 49), (4, some 50), (5, some 51)] rfl rfl ?_ ?_
          · cbv
            all_goals exact ⟨⟨_, rfl, rfl⟩, ⟨_, rfl, rfl⟩, ⟨_, rfl, rfl⟩, ⟨_, rfl, rfl⟩, trivial⟩
          · cbv
            all_goals exact ⟨⟨_, rfl, _, rfl, rfl, rfl, rfl, rfl, rfl, trivial⟩, ⟨_, rfl, _, rfl, rfl, rfl, rfl, rfl, rfl, trivial⟩, ⟨_, rfl, rfl⟩, ⟨_, rfl, rfl⟩, ⟨_, rfl, rfl⟩, ⟨_, rfl, rfl⟩, trivial⟩
        · rintro ⟨⟨n1, v2, w1, w2, w3, w4, v1⟩, hn1, hi1, h_1⟩ hq1
          try dsimp only at hn1 hi1 h_1
          clear hq1
          cbv
          rcases n1 with _ | n1
          · have hb4 : lt v2 a1 = false := ltC_false hg hn1
            rw [I_RunCentre_l1] at h_1
            try rw [← hg] at h_1
            try rw [← ht] at h_1
            try dsimp only at h_1
            rw [hb4]
            cbv
            refine ⟨(w1, w2, w3, w4, v1), Wk.of [(0, some 0), (1, some 1), (2, some 2), (3, some 3), (4, some 4), (5, some 5)] rfl rfl ?_ ?_, (Option.some.inj h_1).symm⟩
            · cbv
              all_goals exact ⟨⟨_, rfl, rfl⟩, ⟨_, rfl, rfl⟩, trivial⟩
            · cbv
              all_goals exact ⟨⟨_, rfl, _, rfl, rfl, rfl, rfl, rfl, rfl, trivial⟩, ⟨_, rfl, _, rfl, rfl, rfl, rfl, rfl, rfl, trivial⟩, ⟨_, rfl, rfl⟩, ⟨_, rfl, rfl⟩, ⟨_, rfl, rfl⟩, ⟨_, rfl, rfl⟩, trivial⟩
          · have hb4 : lt v2 a1 = true := ltC_true hg hn1
            have hl1 := ltC_le hn1
            have hs1 := stepltC hg hn1 hi1 hB1 (by decide)
            rw [I_RunCentre_l1] at h_1
            try rw [← hg] at h_1
            try rw [← ht] at h_1
            try dsimp only at h_1
            rw [hb4]
            cbv
            refine AStep.mk ⟨⟨rfl, (dlen_Item hg ht _)⟩, ⟨⟨rfl, (dlen_Chute hg ht _)⟩, ⟨⟨rfl, (dlen_Inlet hg ht _)⟩, ⟨rfl, (dlen_I64 hg ht _)⟩⟩⟩⟩ ?_
            cbv
            obtain ⟨x4, hx4, h_1⟩ := of_cl h_1
            obtain ⟨x4_Belt, x4_Chutes, x4_Inlets, x4_Plan, x4_Now⟩ := x4
            try dsimp only at h_1
            refine ACallM.mk _ _ _ _ rfl rfl (hF _ _ _ (c_I_tick hg ht hx4)) rfl (Nat.le_of_ble_eq_true rfl) (Nat.le_of_ble_eq_true rfl) ?_
            cbv
            try rw [hg] at h_1
            try rw [ht] at h_1
            refine ⟨⟨(n1, (wrap .i64 (add v2 1)), x4_Belt, x4_Chutes, x4_Inlets, x4_Plan, x4_Now), hs1.1, hs1.2, h_1⟩, Wk.of [(0, some 0), (1, some 1), (2, some 62), (3, some 63), (4, some 64), (5, some 65)] rfl rfl ?_ ?_, Nat.lt_succ_self _⟩
            · cbv
              all_goals exact ⟨⟨_, rfl, rfl⟩, ⟨_, rfl, rfl⟩, ⟨_, rfl, rfl⟩, ⟨_, rfl, rfl⟩, trivial⟩
            · cbv
              all_goals exact ⟨⟨_, rfl, _, rfl, rfl, rfl, rfl, rfl, rfl, trivial⟩, ⟨_, rfl, _, rfl, rfl, rfl, rfl, rfl, rfl, trivial⟩, ⟨_, rfl, rfl⟩, ⟨_, rfl, rfl⟩, ⟨_, rfl, rfl⟩, ⟨_, rfl, rfl⟩, trivial⟩
        · rintro ⟨y1_1, y1_2_1, y1_2_2_1, y1_2_2_2_1, y1_2_2_2_2⟩ hy1
          replace hy1 := hy1.symm
          subst hy1
          try dsimp only [lr, lrL, lrp, lrpL] at h
          cbv
          obtain rfl := Option.some.inj h
          exact ARet.mk ⟨⟨rfl, (dlen_Item hg ht _)⟩, ⟨⟨rfl, (dlen_Chute hg ht _)⟩, ⟨⟨rfl, (dlen_Inlet hg ht _)⟩, ⟨rfl, (dlen_I64 hg ht _)⟩⟩⟩⟩ hX.symm
    | false =>
      rw [br_false hb2] at h
      cbv
      try (rw [hb2]; cbv)
      try (rw [hb2]; cbv)
      try (rw [hb2]; cbv)
      try (rw [hb2]; cbv)
      try (rw [hb2]; cbv)
      obtain rfl := Option.some.inj h
      exact ARet.mk ⟨⟨rfl, (dlen_Item hg ht _)⟩, ⟨⟨rfl, (dlen_Chute hg ht _)⟩, ⟨⟨rfl, (dlen_Inlet hg ht _)⟩, ⟨rfl, (dlen_I64 hg ht _)⟩⟩⟩⟩ hX.symm
  | false =>
    rw [br_false hb1] at h
    cbv
    try (rw [hb1]; cbv)
    try (rw [hb1]; cbv)
    try (rw [hb1]; cbv)
    obtain rfl := Option.some.inj h
    exact ARet.mk ⟨⟨rfl, (dlen_Item hg ht _)⟩, ⟨⟨rfl, (dlen_Chute hg ht _)⟩, ⟨⟨rfl, (dlen_Inlet hg ht _)⟩, ⟨rfl, (dlen_I64 hg ht _)⟩⟩⟩⟩ hX.symm
end Go.Vs
namespace Go.Vs
set_option maxRecDepth 100000
def ir38 : J :=
  .seq (.reg none [⟨(some 4), none, .mv (.k (V.b false))⟩] [0, 1])
  (.seq (.seq (.reg none [⟨(some 6), none, .mv (.t 0)⟩,
      ⟨(some 7), none, .len false (.t 6)⟩,
      ⟨(some 8), none, .mv (.t 1)⟩,
      ⟨(some 9), none, .len false (.t 8)⟩,
      ⟨(some 10), none, .bin .neq .i (.t 7) (.t 9)⟩] [0, 1, 10])
   (.cond (.t 10)
    (.seq (.reg none [⟨(some 4), none, .mv (.k (V.b false))⟩] [4])
     (.ret))
    (.skip)))
  (.seq (.seq (.reg none [⟨(some 5), none, .mv (.k (V.i 0))⟩] [0, 1, 5])
   (.bl 0 (.seq (.seq (.reg none [⟨(some 11), none, .mv (.t 5)⟩,
        ⟨(some 12), none, .mv (.t 0)⟩,
        ⟨(some 13), none, .len false (.t 12)⟩,
        ⟨(some 14), none, .bin .lss .i (.t 11) (.t 13)⟩] [0, 1, 5, 14])
     (.cond (.t 14)
      (.skip)
      (.exit 0)))
    (.seq (.block 1 (.seq (.reg (some [[], [], [0, 1], [0, 1, 2], [], [], [4, 5], [4, 5, 6], [0, 1, 2, 3, 4, 5, 6, 7]]) [⟨(some 17), none, .mv (.t 0)⟩,
         ⟨(some 18), none, .mv (.t 5)⟩,
         ⟨(some 19), none, .ia 1 (.t 17) (.t 18)⟩,
         ⟨(some 20), none, .ld false 1 (.t 19)⟩,
         ⟨(some 21), none, .mv (.t 1)⟩,
         ⟨(some 22), none, .mv (.t 5)⟩,
         ⟨(some 23), none, .ia 1 (.t 21) (.t 22)⟩,
         ⟨(some 24), none, .ld false 1 (.t 23)⟩,
         ⟨(some 25), none, .bin .neq .i (.t 20) (.t 24)⟩] [0, 1, 5, 25])
      (.cond (.t 25)
       (.seq (.reg none [⟨(some 4), none, .mv (.k (V.b false))⟩] [4])
        (.ret))
       (.skip))))
    (.reg none [⟨(some 15), none, .mv (.t 5)⟩,
      ⟨(some 16), none, .bin .add .i (.t 15) (.k (V.i 1))⟩,
      ⟨(some 5), none, .mv (.t 16)⟩] [0, 1, 5])))))
  (.seq (.reg none [⟨(some 4), none, .mv (.k (V.b true))⟩] [4])
  (.ret))))
def rv38 : List RV := [.t 4]
open Go.Proofs Go.IntWalk
set_option linter.unusedVariables false
set_option maxRecDepth 100000
set_option maxHeartbeats 4000000
def L_ints_l1 (g : G) (t : TE) (a1 : List Int) : List Int → Int → Option (LR Bool Unit)
  | [], v1 =>
    some (LR.out ())
  | z1 :: ls1, v1 =>
    gt a1 (g.nat v1) fun x1 =>
    br (g.eq z1 x1)
    (
     L_ints_l1 g t a1 ls1 (g.wrap .i64 (g.add v1 1)))
    (
     some (LR.ret false))
def L_ints (g : G) (t : TE) (a0 : List Int) (a1 : List Int) : Option Bool :=
  br (g.eq (g.llen (t.r_I64 a0)) (g.llen (t.r_I64 a1)))
  (
   cl (L_ints_l1 g t a1 a0 0) fun o1 => lr o1 fun y1 =>
   some true)
  (
   some false)
theorem fit38 : codeFit Try.prog Try.f38.ntmps (Try.f38.body.getD .skip) ir38 = true := by kernel_rfl
theorem c_L_ints {g : G} {t : TE} {a0 : List Int} {a1 : List Int} {r : Bool} (hg : g = G.real) (ht : t = TE.real) (h : L_ints g t a0 a1 = some r) : Fn Try.prog 38 [.c (.s 1 (t.r_I64 a0)), .c (.s 1 (t.r_I64 a1))] (.c (.r (.v (.bool r)))) := by
  obtain ⟨X, hX⟩ := hide (.c (.r (.v (.bool r))) : X)
  rw [← hX]
  refine fn_of (rvs := rv38) (j := ir38) Try.func38 rfl fit38 (Nat.le_of_ble_eq_true rfl) (by kernel_rfl) prog_mixed ?_
  intro g2 F hg2 hF
  obtain rfl : g2 = g := hg2.unique.trans hg.symm
  clear hg2
  obtain ⟨wrap, lt, le, eq, quo, rem, band, bor, bxor, shl, shr, nat, int, add, sub, mul, cat, seq, slt, sub3, byte, llen, nadd, nsub, dlen, dapp, dset, drep, rd, rda, up, rsub, dsub, all, sle, slen, hasI, putI, hasS, putS, imin, imax, fzc⟩ := g2
  obtain ⟨r_Item, d_Item, r_Chute, d_Chute, r_Inlet, d_Inlet, r_I64, d_I64, r_U8, d_U8, d_InletF⟩ := t
  unfold L_ints at h
  try dsimp only at h
  cbv
  cases hb1 : (eq (llen (r_I64 a0)) (llen (r_I64 a1))) with
  | true =>
    rw [br_true hb1] at h
    cbv
    obtain ⟨o1, ho1, h⟩ := of_cl h
    try dsimp only at h
    try rw [hg] at ho1
    try rw [ht] at ho1
    refine ABL.mk { p : Nat × Int // p.1 ≤ a0.length ∧ p.2 = ((p.1 : Nat) : Int) ∧ L_ints_l1 G.real TE.real a1 (List.drop p.1 a0) p.2 = some o1 } (fun ⟨⟨k1, v1⟩, _⟩ => ({ sl := [(0, .c (.r (.s 1 (r_I64 a0)))), (1, .c (.r (.s 1 (r_I64 a1)))), (5, .c (.r (.v (.int .i64 v1))))], tab := [] } : St)) 0 (fun p => a0.length - p.1.1) ⟨(0, 0), Nat.zero_le _, rfl, ho1⟩ (Unit) (fun _ => ({ sl := [], tab := [] } : St)) 0 (fun y => o1 = LR.out y) ?_ ?_ ?_
    · refine Wk.of [] rfl rfl ?_ ?_
      · cbv
        all_goals exact ⟨⟨_, rfl, rfl⟩, ⟨_, rfl, rfl⟩, ⟨_, rfl, rfl⟩, trivial⟩
      · cbv
        all_goals exact trivial
    · rintro ⟨⟨k1, v1⟩, hk1, hi1, h_1⟩ hq1
      have hm1 := (hq1.1 0 _ _ rfl)
      try dsimp only at hk1 hi1 h_1
      clear hq1
      cbv
      by_cases hc1_ : k1 < a0.length
      · have hb2 : lt v1 (llen (r_I64 a0)) = true := ltL_true_I64 hg ht hi1 hc1_
        have hs1 := stepL_I64 hg ht hi1 hc1_ hm1
        obtain ⟨z1, hz1⟩ := some_of_lt hc1_
        rw [drop_of_some hz1] at h_1
        rw [L_ints_l1] at h_1
        try rw [← hg] at h_1
        try rw [← ht] at h_1
        try dsimp only at h_1
        rw [hb2]
        cbv
        refine AStep.mk (nn_L hi1) ?_
        cbv
        refine AGet.mk _ (r_getL_I64 hg ht hi1 hz1) ?_
        cbv
        refine AStep.mk (nn_L hi1) ?_
        cbv
        obtain ⟨x1, hx1, h_1⟩ := of_gt h_1
        try dsimp only at h_1
        refine AGet.mk _ (r_get_I64 hg ht hx1) ?_
        cbv
        cases hb3 : (eq z1 x1) with
        | true =>
          rw [br_true hb3] at h_1
          cbv
          try rw [hg] at h_1
          try rw [ht] at h_1
          refine ⟨⟨(k1 + 1, (wrap .i64 (add v1 1))), hc1_, hs1, h_1⟩, Wk.of [] rfl rfl ?_ ?_, meas_L hc1_⟩
          · cbv
            all_goals exact ⟨⟨_, rfl, rfl⟩, ⟨_, rfl, rfl⟩, ⟨_, rfl, rfl⟩, trivial⟩
          · cbv
            all_goals exact trivial
        | false =>
          rw [br_false hb3] at h_1
          cbv
          obtain rfl := Option.some.inj h_1
          try dsimp only [lr, lrL, lrp, lrpL] at h
          obtain rfl := Option.some.inj h
          exact ARet.mk trivial hX.symm
      · have hb2 : lt v1 (llen (r_I64 a0)) = false := ltL_false_I64 hg ht hi1 hc1_
        rw [List.drop_of_length_le (Nat.le_of_not_lt hc1_)] at h_1
        rw [L_ints_l1] at h_1
        try rw [← hg] at h_1
        try rw [← ht] at h_1
        try dsimp only at h_1
        rw [hb2]
        cbv
        refine ⟨(), Wk.of [] rfl rfl ?_ ?_, (Option.some.inj h_1).symm⟩
        · cbv
          all_goals exact trivial
        · cbv
          all_goals exact trivial
    · rintro _ hy1
      replace hy1 := hy1.symm
      subst hy1
      try dsimp only [lr, lrL, lrp, lrpL] at h
      cbv
      obtain rfl := Option.some.inj h
      exact ARet.mk trivial hX.symm
  | false =>
    rw [br_false hb1] at h
    cbv
    obtain rfl := Option.some.inj h
    exact ARet.mk trivial hX.symm
end Go.Vs
namespace Go.Vs
set_option maxRecDepth 100000
def ir102 : J :=
  .seq (.reg none [⟨(some 4), none, .mv (.k (V.b false))⟩] [0, 1])
  (.seq (.seq (.reg none [⟨(some 7), none, .mv (.t 0)⟩,
      ⟨(some 8), none, .len false (.t 7)⟩,
      ⟨(some 9), none, .mv (.k (V.i 0))⟩] [1, 7, 8, 9])
   (.bl 0 (.seq (.reg none [⟨(some 10), none, .bin .lss .i (.t 9) (.t 8)⟩] [1, 7, 8, 9, 10])
    (.seq (.cond (.t 10)
      (.skip)
      (.exit 0))
    (.seq (.block 1 (.seq (.reg none [⟨(some 11), none, .ia 2 (.t 7) (.t 9)⟩,
         ⟨(some 12), none, .ld true 2 (.t 11)⟩,
         ⟨(some 6), none, .alloc [.r (.v (.int .i64 0)), .r (.v (.int .i64 0))]⟩,
         ⟨none, none, .st 2 (.t 6) (.t 12)⟩] [1, 6, 7, 8, 9])
      (.seq (.reg none [⟨(some 13), none, .fa 0 (.t 6)⟩,
         ⟨(some 14), none, .ld false 1 (.t 13)⟩,
         ⟨(some 15), none, .mv (.t 1)⟩,
         ⟨(some 16), none, .bin .eql .i (.t 14) (.t 15)⟩] [1, 7, 8, 9, 16])
      (.cond (.t 16)
       (.seq (.reg none [⟨(some 4), none, .mv (.k (V.b true))⟩] [4])
        (.ret))
       (.skip)))))
    (.reg none [⟨(some 17), none, .bin .add .i (.t 9) (.k (V.i 1))⟩,
      ⟨(some 9), none, .mv (.t 17)⟩] [1, 7, 8, 9]))))))
  (.seq (.reg none [⟨(some 4), none, .mv (.k (V.b false))⟩] [4])
  (.ret)))
def rv102 : List RV := [.t 4]
open Go.Proofs Go.IntWalk
set_option linter.unusedVariables false
set_option maxRecDepth 100000
set_option maxHeartbeats 4000000
def I_hasItem_l1 (g : G) (t : TE) (a1 : Int) : List Item → LR Bool Unit
  | [] =>
    (LR.out ())
  | z1 :: ls1 =>
    br (g.eq z1.Id a1)
    (
     (LR.ret true))
    (
     I_hasItem_l1 g t a1 ls1)
def I_hasItem (g : G) (t : TE) (a0 : List Item) (a1 : Int) : Bool :=
  lP (I_hasItem_l1 g t a1 a0) fun o1 => lrp o1 fun y1 =>
  false
theorem fit102 : codeFit Try.prog Try.f102.ntmps (Try.f102.body.getD .skip) ir102 = true := by kernel_rfl
theorem c_I_hasItem {g : G} {t : TE} {a0 : List Item} {a1 : Int} {r : Bool} (hg : g = G.real) (ht : t = TE.real) (h : I_hasItem g t a0 a1 = r) : Fn Try.prog 102 [.c (.s 2 (t.r_Item a0)), .c (.v (.int .i64 a1))] (.c (.r (.v (.bool r)))) := by
  obtain ⟨X, hX⟩ := hide (.c (.r (.v (.bool r))) : X)
  rw [← hX]
  refine fn_of (rvs := rv102) (j := ir102) Try.func102 rfl fit102 (Nat.le_of_ble_eq_true rfl) (by kernel_rfl) prog_mixed ?_
  intro g2 F hg2 hF
  obtain rfl : g2 = g := hg2.unique.trans hg.symm
  clear hg2
  obtain ⟨wrap, lt, le, eq, quo, rem, band, bor, bxor, shl, shr, nat, int, add, sub, mul, cat, seq, slt, sub3, byte, llen, nadd, nsub, dlen, dapp, dset, drep, rd, rda, up, rsub, dsub, all, sle, slen, hasI, putI, hasS, putS, imin, imax, fzc⟩ := g2
  obtain ⟨r_Item, d_Item, r_Chute, d_Chute, r_Inlet, d_Inlet, r_I64, d_I64, r_U8, d_U8, d_InletF⟩ := t
  unfold I_hasItem at h
  try dsimp only at h
  cbv
  obtain ⟨o1, ho1, h⟩ := of_lP h
  try dsimp only at h
  try rw [hg] at ho1
  try rw [ht] at ho1
  refine ABL.mk { p : Nat × Int // p.1 ≤ a0.length ∧ p.2 = ((p.1 : Nat) : Int) ∧ I_hasItem_l1 G.real TE.real a1 (List.drop p.1 a0) = o1 } (fun ⟨⟨k1, v1⟩, _⟩ => ({ sl := [(1, .c (.r (.v (.int .i64 a1)))), (7, .c (.r (.s 2 (r_Item a0)))), (8, .c (.r (.v (.int .i64 (llen (r_Item a0)))))), (9, .c (.r (.v (.int .i64 v1))))], tab := [] } : St)) 0 (fun p => a0.length - p.1.1) ⟨(0, 0), Nat.zero_le _, rfl, ho1⟩ (Unit) (fun _ => ({ sl := [], tab := [] } : St)) 0 (fun y => o1 = LR.out y) ?_ ?_ ?_
  · refine Wk.of [] rfl rfl ?_ ?_
    · cbv
      all_goals exact ⟨⟨_, rfl, rfl⟩, ⟨_, rfl, rfl⟩, ⟨_, rfl, rfl⟩, ⟨_, rfl, rfl⟩, trivial⟩
    · cbv
      all_goals exact trivial
  · rintro ⟨⟨k1, v1⟩, hk1, hi1, h_1⟩ hq1
    have hm1 := (hq1.1 7 _ _ rfl)
    try dsimp only at hk1 hi1 h_1
    clear hq1
    cbv
    by_cases hc1_ : k1 < a0.length
    · have hb1 : lt v1 (llen (r_Item a0)) = true := ltL_true_Item hg ht hi1 hc1_
      have hs1 := stepL_Item hg ht hi1 hc1_ hm1
      obtain ⟨z1, hz1⟩ := some_of_lt hc1_
      rw [drop_of_some hz1] at h_1
      rw [I_hasItem_l1] at h_1
      obtain ⟨z1_Id, z1_Dest⟩ := z1
      try rw [← hg] at h_1
      try rw [← ht] at h_1
      try dsimp only at h_1
      rw [hb1]
      cbv
      refine AStep.mk (nn_L hi1) ?_
      cbv
      refine AGet.mk _ (r_getL_Item hg ht hi1 hz1) ?_
      cbv
      cases hb2 : (eq z1_Id a1) with
      | true =>
        rw [br_true hb2] at h_1
        cbv
        subst h_1
        try dsimp only [lr, lrL, lrp, lrpL] at h
        subst h
        exact ARet.mk trivial hX.symm
      | false =>
        rw [br_false hb2] at h_1
        cbv
        try rw [hg] at h_1
        try rw [ht] at h_1
        refine ⟨⟨(k1 + 1, (wrap .i64 (add v1 1))), hc1_, hs1, h_1⟩, Wk.of [] rfl rfl ?_ ?_, meas_L hc1_⟩
        · cbv
          all_goals exact ⟨⟨_, rfl, rfl⟩, ⟨_, rfl, rfl⟩, ⟨_, rfl, rfl⟩, ⟨_, rfl, rfl⟩, trivial⟩
        · cbv
          all_goals exact trivial
    · have hb1 : lt v1 (llen (r_Item a0)) = false := ltL_false_Item hg ht hi1 hc1_
      rw [List.drop_of_length_le (Nat.le_of_not_lt hc1_)] at h_1
      rw [I_hasItem_l1] at h_1
      try rw [← hg] at h_1
      try rw [← ht] at h_1
      try dsimp only at h_1
      rw [hb1]
      cbv
      refine ⟨(), Wk.of [] rfl rfl ?_ ?_, h_1.symm⟩
      · cbv
        all_goals exact trivial
      · cbv
        all_goals exact trivial
  · rintro _ hy1
    replace hy1 := hy1.symm
    subst hy1
    try dsimp only [lr, lrL, lrp, lrpL] at h
    cbv
    subst h
    exact ARet.mk trivial hX.symm
end Go.Vs
namespace Go.Vs
set_option maxRecDepth 100000
def ir52 : J :=
  .seq (.reg none [⟨(some 2), none, .box (.t 0)⟩,
     ⟨(some 4), none, .mv (.k (V.i 0))⟩,
     ⟨(some 5), none, .mv (.k (V.i 0))⟩] [1, 2])
  (.seq (.seq (.reg none [⟨(some 12), none, .ld true 5 (.t 2)⟩,
      ⟨(some 13), none, .call 32 true [(.t 12)]⟩,
      ⟨(some 14), none, .not (.t 13)⟩,
      ⟨(some 15), none, .mv (.t 14)⟩,
      ⟨(some 16), (some (15, false)), .mv (.t 1)⟩,
      ⟨(some 17), (some (15, false)), .bin .eql .i (.t 16) (.k (V.i 0))⟩,
      ⟨(some 18), none, .pick (.t 15) (.k (V.b true)) (.t 17)⟩] [1, 2, 18])
   (.cond (.t 18)
    (.seq (.reg none [⟨(some 4), none, .mv (.k (V.i 0))⟩,
        ⟨(some 5), none, .mv (.k (V.i 0))⟩] [4, 5])
     (.ret))
    (.skip)))
  (.seq (.seq (.reg none [⟨(some 19), none, .fa 0 (.t 2)⟩,
      ⟨(some 20), none, .ld false 1 (.t 19)⟩,
      ⟨(some 21), none, .len false (.t 20)⟩,
      ⟨(some 22), none, .mv (.k (V.i 0))⟩] [1, 2, 20, 21, 22])
   (.bl 0 (.seq (.reg none [⟨(some 23), none, .bin .lss .i (.t 22) (.t 21)⟩] [1, 2, 20, 21, 22, 23])
    (.seq (.cond (.t 23)
      (.skip)
      (.exit 0))
    (.seq (.block 1 (.seq (.reg none [⟨(some 24), none, .mv (.t 22)⟩,
         ⟨(some 25), none, .ia 2 (.t 20) (.t 22)⟩,
         ⟨(some 26), none, .ld true 2 (.t 25)⟩,
         ⟨(some 7), none, .alloc [.r (.v (.int .i64 0)), .r (.v (.int .i64 0))]⟩,
         ⟨(some 6), none, .mv (.t 24)⟩,
         ⟨none, none, .st 2 (.t 7) (.t 26)⟩] [1, 2, 6, 7, 20, 21, 22])
      (.seq (.reg none [⟨(some 27), none, .fa 0 (.t 7)⟩,
         ⟨(some 28), none, .ld false 1 (.t 27)⟩,
         ⟨(some 29), none, .mv (.t 1)⟩,
         ⟨(some 30), none, .bin .eql .i (.t 28) (.t 29)⟩] [1, 2, 6, 20, 21, 22, 30])
      (.cond (.t 30)
       (.seq (.reg none [⟨(some 31), none, .mv (.t 6)⟩,
           ⟨(some 4), none, .mv (.k (V.i 1))⟩,
           ⟨(some 5), none, .mv (.t 31)⟩] [4, 5])
        (.ret))
       (.skip)))))
    (.reg none [⟨(some 32), none, .bin .add .i (.t 22) (.k (V.i 1))⟩,
      ⟨(some 22), none, .mv (.t 32)⟩] [1, 2, 20, 21, 22]))))))
  (.seq (.seq (.reg none [⟨(some 33), none, .fa 1 (.t 2)⟩,
      ⟨(some 34), none, .ld false 1 (.t 33)⟩,
      ⟨(some 35), none, .len false (.t 34)⟩,
      ⟨(some 36), none, .mv (.k (V.i 0))⟩] [1, 2, 34, 35, 36])
   (.bl 2 (.seq (.reg none [⟨(some 37), none, .bin .lss .i (.t 36) (.t 35)⟩] [1, 2, 34, 35, 36, 37])
    (.seq (.cond (.t 37)
      (.skip)
      (.exit 2))
    (.seq (.block 3 (.seq (.reg none [⟨(some 38), none, .mv (.t 36)⟩,
         ⟨(some 39), none, .ia 3 (.t 34) (.t 36)⟩,
         ⟨(some 40), none, .ld true 3 (.t 39)⟩,
         ⟨(some 9), none, .alloc [.r (.v (.int .i64 0)), .r (.v (.int .i64 0)), .n 2]⟩,
         ⟨(some 8), none, .mv (.t 38)⟩,
         ⟨none, none, .st 3 (.t 9) (.t 40)⟩] [1, 2, 8, 9, 34, 35, 36])
      (.seq (.reg none [⟨(some 41), none, .fa 2 (.t 9)⟩,
         ⟨(some 42), none, .ld false 1 (.t 41)⟩,
         ⟨(some 43), none, .mv (.t 1)⟩,
         ⟨(some 44), none, .call 102 true [(.t 42), (.t 43)]⟩] [1, 2, 8, 34, 35, 36, 44])
      (.cond (.t 44)
       (.seq (.reg none [⟨(some 45), none, .mv (.t 8)⟩,
           ⟨(some 4), none, .mv (.k (V.i 2))⟩,
           ⟨(some 5), none, .mv (.t 45)⟩] [4, 5])
        (.ret))
       (.skip)))))
    (.reg none [⟨(some 46), none, .bin .add .i (.t 36) (.k (V.i 1))⟩,
      ⟨(some 36), none, .mv (.t 46)⟩] [1, 2, 34, 35, 36]))))))
  (.seq (.seq (.reg none [⟨(some 47), none, .fa 2 (.t 2)⟩,
      ⟨(some 48), none, .ld false 1 (.t 47)⟩,
      ⟨(some 49), none, .len false (.t 48)⟩,
      ⟨(some 50), none, .mv (.k (V.i 0))⟩] [1, 48, 49, 50])
   (.bl 4 (.seq (.reg none [⟨(some 51), none, .bin .lss .i (.t 50) (.t 49)⟩] [1, 48, 49, 50, 51])
    (.seq (.cond (.t 51)
      (.skip)
      (.exit 4))
    (.seq (.block 5 (.seq (.reg none [⟨(some 52), none, .mv (.t 50)⟩,
         ⟨(some 53), none, .ia 2 (.t 48) (.t 50)⟩,
         ⟨(some 54), none, .ld true 2 (.t 53)⟩,
         ⟨(some 11), none, .alloc [.r (.v (.int .i64 0)), .n 2]⟩,
         ⟨(some 10), none, .mv (.t 52)⟩,
         ⟨none, none, .st 2 (.t 11) (.t 54)⟩] [1, 10, 11, 48, 49, 50])
      (.seq (.reg none [⟨(some 55), none, .fa 1 (.t 11)⟩,
         ⟨(some 56), none, .ld false 1 (.t 55)⟩,
         ⟨(some 57), none, .mv (.t 1)⟩,
         ⟨(some 58), none, .call 102 true [(.t 56), (.t 57)]⟩] [1, 10, 48, 49, 50, 58])
      (.cond (.t 58)
       (.seq (.reg none [⟨(some 59), none, .mv (.t 10)⟩,
           ⟨(some 4), none, .mv (.k (V.i 3))⟩,
           ⟨(some 5), none, .mv (.t 59)⟩] [4, 5])
        (.ret))
       (.skip)))))
    (.reg none [⟨(some 60), none, .bin .add .i (.t 50) (.k (V.i 1))⟩,
      ⟨(some 50), none, .mv (.t 60)⟩] [1, 48, 49, 50]))))))
  (.seq (.reg none [⟨(some 4), none, .mv (.k (V.i 0))⟩,
     ⟨(some 5), none, .mv (.k (V.i 0))⟩] [4, 5])
  (.ret))))))
def rv52 : List RV := [.t 4, .t 5]
open Go.Proofs Go.IntWalk
set_option linter.unusedVariables false
set_option maxRecDepth 100000
set_option maxHeartbeats 4000000
def I_WhereIs_l3 (g : G) (t : TE) (a1 : Int) : List Inlet → Int → LR (Int × Int) Unit
  | [], v3 =>
    (LR.out ())
  | z3 :: ls3, v3 =>
    lP (I_hasItem g t z3.Wait a1) fun x3 =>
    br x3
    (
     (LR.ret ((3, v3))))
    (
     I_WhereIs_l3 g t a1 ls3 (g.wrap .i64 (g.add v3 1)))
def I_WhereIs_l2 (g : G) (t : TE) (a1 : Int) : List Chute → Int → LR (Int × Int) Unit
  | [], v2 =>
    (LR.out ())
  | z2 :: ls2, v2 =>
    lP (I_hasItem g t z2.Held a1) fun x2 =>
    br x2
    (
     (LR.ret ((2, v2))))
    (
     I_WhereIs_l2 g t a1 ls2 (g.wrap .i64 (g.add v2 1)))
def I_WhereIs_l1 (g : G) (t : TE) (a1 : Int) : List Item → Int → LR (Int × Int) Unit
  | [], v1 =>
    (LR.out ())
  | z1 :: ls1, v1 =>
    br (g.eq z1.Id a1)
    (
     (LR.ret ((1, v1))))
    (
     I_WhereIs_l1 g t a1 ls1 (g.wrap .i64 (g.add v1 1)))
def I_WhereIs (g : G) (t : TE) (a0 : Centre) (a1 : Int) : Option (Int × Int) :=
  cl (I_IsCentre g t a0) fun x1 =>
  br x1
  (
   br (g.eq a1 0)
   (
    some ((0, 0)))
   (
    lP (I_WhereIs_l1 g t a1 a0.Belt 0) fun o1 => lr o1 fun y1 =>
    lP (I_WhereIs_l2 g t a1 a0.Chutes 0) fun o2 => lr o2 fun y2 =>
    lP (I_WhereIs_l3 g t a1 a0.Inlets 0) fun o3 => lr o3 fun y3 =>
    some ((0, 0))))
  (
   some ((0, 0)))
theorem fit52 : codeFit Try.prog Try.f52.ntmps (Try.f52.body.getD .skip) ir52 = true := by kernel_rfl
theorem c_I_WhereIs {g : G} {t : TE} {a0 : Centre} {a1 : Int} {r : Int × Int} (hg : g = G.real) (ht : t = TE.real) (h : I_WhereIs g t a0 a1 = some r) : Fn Try.prog 52 [.g (Centre.rs t a0), .c (.v (.int .i64 a1))] (.u [.c (.r (.v (.int .i64 r.1))), .c (.r (.v (.int .i64 r.2)))]) := by
  obtain ⟨X, hX⟩ := hide (.u [.c (.r (.v (.int .i64 r.1))), .c (.r (.v (.int .i64 r.2)))] : X)
  rw [← hX]
  refine fn_of (rvs := rv52) (j := ir52) Try.func52 rfl fit52 (Nat.le_of_ble_eq_true rfl) (by kernel_rfl) prog_mixed ?_
  intro g2 F hg2 hF
  obtain rfl : g2 = g := hg2.unique.trans hg.symm
  clear hg2
  obtain ⟨wrap, lt, le, eq, quo, rem, band, bor, bxor, shl, shr, nat, int, add, sub, mul, cat, seq, slt, sub3, byte, llen, nadd, nsub, dlen, dapp, dset, drep, rd, rda, up, rsub, dsub, all, sle, slen, hasI, putI, hasS, putS, imin, imax, fzc⟩ := g2
  obtain ⟨r_Item, d_Item, r_Chute, d_Chute, r_Inlet, d_Inlet, r_I64, d_I64, r_U8, d_U8, d_InletF⟩ := t
  obtain ⟨a0_Belt, a0_Chutes, a0_Inlets, a0_Plan, a0_Now⟩ := a0
  unfold I_WhereIs at h
  try dsimp only at h
  cbv
  obtain ⟨x1, hx1, h⟩ := of_cl h
  try dsimp only at h
  refine ACall.mk _ _ rfl (hF _ _ _ (c_I_IsCentre hg ht hx1)) (.inl rfl) (Nat.le_of_ble_eq_true rfl) ?_
  cbv
  cases hb1 : x1 with
  | true =>
    rw [br_true hb1] at h
    cbv
    try (rw [hb1]; cbv)
    try (rw [hb1]; cbv)
    cases hb2 : (eq a1 0) with
    | true =>
      rw [br_true hb2] at h
      cbv
      obtain rfl := Option.some.inj h
      exact ARet.mk trivial hX.symm
    | false =>
      rw [br_false hb2] at h
      cbv
      obtain ⟨o1, ho1, h⟩ := of_lP h
      try dsimp only at h
      try rw [hg] at ho1
      try rw [ht] at ho1
      refine ABL.mk { p : Nat × Int // p.1 ≤ a0_Belt.length ∧ p.2 = ((p.1 : Nat) : Int) ∧ I_WhereIs_l1 G.real TE.real a1 (List.drop p.1 a0_Belt) p.2 = o1 } (fun ⟨⟨k1, v1⟩, _⟩ => ({ sl := [(1, .c (.r (.v (.int .i64 a1)))), (2, .c (.p 0 5 0 0)), (20, .c (.r (.s 2 (r_Item a0_Belt)))), (21, .c (.r (.v (.int .i64 (llen (r_Item a0_Belt)))))), (22, .c (.r (.v (.int .i64 v1))))], tab := [(0, some (.foc 5 [] [.r (.s 2 (r_Item a0_Belt)), .r (.s 3 (r_Chute a0_Chutes)), .r (.s 2 (r_Inlet a0_Inlets)), .r (.s 1 (r_I64 a0_Plan)), .r (.v (.int .i64 a0_Now))] []))] } : St)) 1 (fun p => a0_Belt.length - p.1.1) ⟨(0, 0), Nat.zero_le _, rfl, ho1⟩ (Unit) (fun _ => ({ sl := [(1, .c (.r (.v (.int .i64 a1)))), (2, .c (.p 0 5 0 0))], tab := [(0, some (.foc 5 [] [.r (.s 2 (r_Item a0_Belt)), .r (.s 3 (r_Chute a0_Chutes)), .r (.s 2 (r_Inlet a0_Inlets)), .r (.s 1 (r_I64 a0_Plan)), .r (.v (.int .i64 a0_Now))] []))] } : St)) 1 (fun y => o1 = LR.out y) ?_ ?_ ?_
      · refine Wk.of [(0, some 0)] rfl rfl ?_ ?_
        · cbv
          all_goals exact ⟨⟨_, rfl, rfl⟩, ⟨_, rfl, rfl⟩, ⟨_, rfl, rfl⟩, ⟨_, rfl, rfl⟩, ⟨_, rfl, rfl⟩, trivial⟩
        · cbv
          all_goals exact ⟨⟨_, rfl, _, rfl, rfl, rfl, rfl, rfl, rfl, trivial⟩, trivial⟩
      · rintro ⟨⟨k1, v1⟩, hk1, hi1, h_1⟩ hq1
        have hm1 := (hq1.1 20 _ _ rfl)
        try dsimp only at hk1 hi1 h_1
        clear hq1
        cbv
        by_cases hc1_ : k1 < a0_Belt.length
        · have hb3 : lt v1 (llen (r_Item a0_Belt)) = true := ltL_true_Item hg ht hi1 hc1_
          have hs1 := stepL_Item hg ht hi1 hc1_ hm1
          obtain ⟨z1, hz1⟩ := some_of_lt hc1_
          rw [drop_of_some hz1] at h_1
          rw [I_WhereIs_l1] at h_1
          obtain ⟨z1_Id, z1_Dest⟩ := z1
          try rw [← hg] at h_1
          try rw [← ht] at h_1
          try dsimp only at h_1
          rw [hb3]
          cbv
          refine AStep.mk (nn_L hi1) ?_
          cbv
          refine AGet.mk _ (r_getL_Item hg ht hi1 hz1) ?_
          cbv
          cases hb4 : (eq z1_Id a1) with
          | true =>
            rw [br_true hb4] at h_1
            cbv
            subst h_1
            try dsimp only [lr, lrL, lrp, lrpL] at h
            obtain rfl := Option.some.inj h
            exact ARet.mk trivial hX.symm
          | false =>
            rw [br_false hb4] at h_1
            cbv
            try rw [hg] at h_1
            try rw [ht] at h_1
            refine ⟨⟨(k1 + 1, (wrap .i64 (add v1 1))), hc1_, hs1, h_1⟩, Wk.of [(0, some 0)] rfl rfl ?_ ?_, meas_L hc1_⟩
            · cbv
              all_goals exact ⟨⟨_, rfl, rfl⟩, ⟨_, rfl, rfl⟩, ⟨_, rfl, rfl⟩, ⟨_, rfl, rfl⟩, ⟨_, rfl, rfl⟩, trivial⟩
            · cbv
              all_goals exact ⟨⟨_, rfl, _, rfl, rfl, rfl, rfl, rfl, rfl, trivial⟩, trivial⟩
        · have hb3 : lt v1 (llen (r_Item a0_Belt)) = false := ltL_false_Item hg ht hi1 hc1_
          rw [List.drop_of_length_le (Nat.le_of_not_lt hc1_)] at h_1
          rw [I_WhereIs_l1] at h_1
          try rw [← hg] at h_1
          try rw [← ht] at h_1
          try dsimp only at h_1
          rw [hb3]
          cbv
          refine ⟨(), Wk.of [(0, some 0)] rfl rfl ?_ ?_, h_1.symm⟩
          · cbv
            all_goals exact ⟨⟨_, rfl, rfl⟩, ⟨_, rfl, rfl⟩, trivial⟩
          · cbv
            all_goals exact ⟨⟨_, rfl, _, rfl, rfl, rfl, rfl, rfl, rfl, trivial⟩, trivial⟩
      · rintro _ hy1
        replace hy1 := hy1.symm
        subst hy1
        try dsimp only [lr, lrL, lrp, lrpL] at h
        cbv
        obtain ⟨o2, ho2, h⟩ := of_lP h
        try dsimp only at h
        try rw [hg] at ho2
        try rw [ht] at ho2
        refine ABL.mk { p : Nat × Int // p.1 ≤ a0_Chutes.length ∧ p.2 = ((p.1 : Nat) : Int) ∧ I_WhereIs_l2 G.real TE.real a1 (List.drop p.1 a0_Chutes) p.2 = o2 } (fun ⟨⟨k2, v2⟩, _⟩ => ({ sl := [(1, .c (.r (.v (.int .i64 a1)))), (2, .c (.p 0 5 0 0)), (34, .c (.r (.s 3 (r_Chute a0_Chutes)))), (35, .c (.r (.v (.int .i64 (llen (r_Chute a0_Chutes)))))), (36, .c (.r (.v (.int .i64 v2))))], tab := [(0, some (.foc 5 [] [.r (.s 2 (r_Item a0_Belt)), .r (.s 3 (r_Chute a0_Chutes)), .r (.s 2 (r_Inlet a0_Inlets)), .r (.s 1 (r_I64 a0_Plan)), .r (.v (.int .i64 a0_Now))] []))] } : St)) 1 (fun p => a0_Chutes.length - p.1.1) ⟨(0, 0), Nat.zero_le _, rfl, ho2⟩ (Unit) (fun _ => ({ sl := [(1, .c (.r (.v (.int .i64 a1)))), (2, .c (.p 0 5 0 0))], tab := [(0, some (.foc 5 [] [.r (.s 2 (r_Item a0_Belt)), .r (.s 3 (r_Chute a0_Chutes)), .r (.s 2 (r_Inlet a0_Inlets)), .r (.s 1 (r_I64 a0_Plan)), .r (.v (.int .i64 a0_Now))] []))] } : St)) 1 (fun y => o2 = LR.out y) ?_ ?_ ?_
        · refine Wk.of [(0, some 0)] rfl rfl ?_ ?_
          · cbv
            all_goals exact ⟨⟨_, rfl, rfl⟩, ⟨_, rfl, rfl⟩, ⟨_, rfl, rfl⟩, ⟨_, rfl, rfl⟩, ⟨_, rfl, rfl⟩, trivial⟩
          · cbv
            all_goals exact ⟨⟨_, rfl, _, rfl, rfl, rfl, rfl, rfl, rfl, trivial⟩, trivial⟩
        · rintro ⟨⟨k2, v2⟩, hk2, hi2, h_2⟩ hq2
          have hm2 := (hq2.1 34 _ _ rfl)
          try dsimp only at hk2 hi2 h_2
          clear hq2
          cbv
          by_cases hc2_ : k2 < a0_Chutes.length
          · have hb5 : lt v2 (llen (r_Chute a0_Chutes)) = true := ltL_true_Chute hg ht hi2 hc2_
            have hs2 := stepL_Chute hg ht hi2 hc2_ hm2
            obtain ⟨z2, hz2⟩ := some_of_lt hc2_
            rw [drop_of_some hz2] at h_2
            rw [I_WhereIs_l2] at h_2
            obtain ⟨z2_Cell, z2_Room, z2_Held⟩ := z2
            try rw [← hg] at h_2
            try rw [← ht] at h_2
            try dsimp only at h_2
            rw [hb5]
            cbv
            refine AStep.mk (nn_L hi2) ?_
            cbv
            refine AGet.mk _ (r_getL_Chute hg ht hi2 hz2) ?_
            cbv
            obtain ⟨x2, hx2, h_2⟩ := of_lP h_2
            try dsimp only at h_2
            refine ACall.mk _ _ rfl (hF _ _ _ (c_I_hasItem hg ht hx2)) (.inl rfl) (Nat.le_of_ble_eq_true rfl) ?_
            cbv
            cases hb6 : x2 with
            | true =>
              rw [br_true hb6] at h_2
              cbv
              subst h_2
              try dsimp only [lr, lrL, lrp, lrpL] at h
              obtain rfl := Option.some.inj h
              exact ARet.mk trivial hX.symm
            | false =>
              rw [br_false hb6] at h_2
              cbv
              try rw [hg] at h_2
              try rw [ht] at h_2
              refine ⟨⟨(k2 + 1, (wrap .i64 (add v2 1))), hc2_, hs2, h_2⟩, Wk.of [(0, some 0)] rfl rfl ?_ ?_, meas_L hc2_⟩
              · cbv
                all_goals exact ⟨⟨_, rfl, rfl⟩, ⟨_, rfl, rfl⟩, ⟨_, rfl, rfl⟩, ⟨_, rfl, rfl⟩, ⟨_, rfl, rfl⟩, trivial⟩
              · cbv
                all_goals exact ⟨⟨_, rfl, _, rfl, rfl, rfl, rfl, rfl, rfl, trivial⟩, trivial⟩
          · have hb5 : lt v2 (llen (r_Chute a0_Chutes)) = false := ltL_false_Chute hg ht hi2 hc2_
            rw [List.drop_of_length_le (Nat.le_of_not_lt hc2_)] at h_2
            rw [I_WhereIs_l2] at h_2
            try rw [← hg] at h_2
            try rw [← ht] at h_2
            try dsimp only at h_2
            rw [hb5]
            cbv
            refine ⟨(), Wk.of [(0, some 0)] rfl rfl ?_ ?_, h_2.symm⟩
            · cbv
              all_goals exact ⟨⟨_, rfl, rfl⟩, ⟨_, rfl, rfl⟩, trivial⟩
            · cbv
              all_goals exact ⟨⟨_, rfl, _, rfl, rfl, rfl, rfl, rfl, rfl, trivial⟩, trivial⟩
        · rintro _ hy2
          replace hy2 := hy2.symm
          subst hy2
          try dsimp only [lr, lrL, lrp, lrpL] at h
          cbv
          obtain ⟨o3, ho3, h⟩ := of_lP h
          try dsimp only at h
          try rw [hg] at ho3
          try rw [ht] at ho3
          refine ABL.mk { p : Nat × Int // p.1 ≤ a0_Inlets.length ∧ p.2 = ((p.1 : Nat) : Int) ∧ I_WhereIs_l3 G.real TE.real a1 (List.drop p.1 a0_Inlets) p.2 = o3 } (fun ⟨⟨k3, v3⟩, _⟩ => ({ sl := [(1, .c (.r (.v (.int .i64 a1)))), (48, .c (.r (.s 2 (r_Inlet a0_Inlets)))), (49, .c (.r (.v (.int .i64 (llen (r_Inlet a0_Inlets)))))), (50, .c (.r (.v (.int .i64 v3))))], tab := [] } : St)) 0 (fun p => a0_Inlets.length - p.1.1) ⟨(0, 0), Nat.zero_le _, rfl, ho3⟩ (Unit) (fun _ => ({ sl := [], tab := [] } : St)) 0 (fun y => o3 = LR.out y) ?_ ?_ ?_
          · refine Wk.of [] rfl rfl ?_ ?_
            · cbv
              all_goals exact ⟨⟨_, rfl, rfl⟩, ⟨_, rfl, rfl⟩, ⟨_, rfl, rfl⟩, ⟨_, rfl, rfl⟩, trivial⟩
            · cbv
              all_goals exact trivial
          · rintro ⟨⟨k3, v3⟩, hk3, hi3, h_3⟩ hq3
            have hm3 := (hq3.1 48 _ _ rfl)
            try dsimp only at hk3 hi3 h_3
            clear hq3
            cbv
            by_cases hc3_ : k3 < a0_Inlets.length
            · have hb7 : lt v3 (llen (r_Inlet a0_Inlets)) = true := ltL_true_Inlet hg ht hi3 hc3_
              have hs3 := stepL_Inlet hg ht hi3 hc3_ hm3
              obtain ⟨z3, hz3⟩ := some_of_lt hc3_
              rw [drop_of_some hz3] at h_3
              rw [I_WhereIs_l3] at h_3
              obtain ⟨z3_Cell, z3_Wait⟩ := z3
              try rw [← hg] at h_3
              try rw [← ht] at h_3
              try dsimp only at h_3
              rw [hb7]
              cbv
              refine AStep.mk (nn_L hi3) ?_
              cbv
              refine AGet.mk _ (r_getL_Inlet hg ht hi3 hz3) ?_
              cbv
              obtain ⟨x3, hx3, h_3⟩ := of_lP h_3
              try dsimp only at h_3
              refine ACall.mk _ _ rfl (hF _ _ _ (c_I_hasItem hg ht hx3)) (.inl rfl) (Nat.le_of_ble_eq_true rfl) ?_
              cbv
              cases hb8 : x3 with
              | true =>
                rw [br_true hb8] at h_3
                cbv
                subst h_3
                try dsimp only [lr, lrL, lrp, lrpL] at h
                obtain rfl := Option.some.inj h
                exact ARet.mk trivial hX.symm
              | false =>
                rw [br_false hb8] at h_3
                cbv
                try rw [hg] at h_3
                try rw [ht] at h_3
                refine ⟨⟨(k3 + 1, (wrap .i64 (add v3 1))), hc3_, hs3, h_3⟩, Wk.of [] rfl rfl ?_ ?_, meas_L hc3_⟩
                · cbv
                  all_goals exact ⟨⟨_, rfl, rfl⟩, ⟨_, rfl, rfl⟩, ⟨_, rfl, rfl⟩, ⟨_, rfl, rfl⟩, trivial⟩
                · cbv
                  all_goals exact trivial
            · have hb7 : lt v3 (llen (r_Inlet a0_Inlets)) = false := ltL_false_Inlet hg ht hi3 hc3_
              rw [List.drop_of_length_le (Nat.le_of_not_lt hc3_)] at h_3
              rw [I_WhereIs_l3] at h_3
              try rw [← hg] at h_3
              try rw [← ht] at h_3
              try dsimp only at h_3
              rw [hb7]
              cbv
              refine ⟨(), Wk.of [] rfl rfl ?_ ?_, h_3.symm⟩
              · cbv
                all_goals exact trivial
              · cbv
                all_goals exact trivial
          · rintro _ hy3
            replace hy3 := hy3.symm
            subst hy3
            try dsimp only [lr, lrL, lrp, lrpL] at h
            cbv
            obtain rfl := Option.some.inj h
            exact ARet.mk trivial hX.symm
  | false =>
    rw [br_false hb1] at h
    cbv
    try (rw [hb1]; cbv)
    try (rw [hb1]; cbv)
    obtain rfl := Option.some.inj h
    exact ARet.mk trivial hX.symm
end Go.Vs
namespace Go.Proofs
open Go.RowKit Go.Sort
set_option maxHeartbeats 2000000
set_option maxRecDepth 100000
def Try.lays191_ren : Go.Shelf.Ren := ⟨fun | 191 => 111 | 189 => 120 | 125 => 122 | 257 => 121 | 128 => 132 | 129 => 133 | 294 => 123 | 295 => 124 | 296 => 125 | 297 => 126 | 298 => 127 | 299 => 128 | 216 => 129 | 300 => 130 | 301 => 131 | 328 => 134 | 329 => 135 | 330 => 136 | 331 => 137 | 332 => 138 | 215 => 139 | 343 => 140 | n => n, fun | 28 => 25 | 0 => 0 | 3 => 3 | 46 => 118 | 51 => 131 | 53 => 133 | 4 => 4 | 183 => 123 | 182 => 122 | 131 => 128 | 5 => 5 | 9 => 9 | 218 => 134 | 222 => 138 | 228 => 141 | 229 => 62 | n => n, fun | n => n⟩
theorem Try.lays191 : Go.Proofs.Lays.n191 Try.prog Try.lays191_ren := {
  mixed := by kernel_rfl
  f125 := Try.func122.trans (congrArg some (by kernel_rfl))
  f128 := Try.func132.trans (congrArg some (by kernel_rfl))
  f129 := Try.func133.trans (congrArg some (by kernel_rfl))
  f189 := Try.func120.trans (congrArg some (by kernel_rfl))
  f191 := Try.func111.trans (congrArg some (by kernel_rfl))
  f215 := Try.func139.trans (congrArg some (by kernel_rfl))
  f216 := Try.func129.trans (congrArg some (by kernel_rfl))
  f257 := Try.func121.trans (congrArg some (by kernel_rfl))
  f294 := Try.func123.trans (congrArg some (by kernel_rfl))
  f295 := Try.func124.trans (congrArg some (by kernel_rfl))
  f296 := Try.func125.trans (congrArg some (by kernel_rfl))
  f297 := Try.func126.trans (congrArg some (by kernel_rfl))
  f298 := Try.func127.trans (congrArg some (by kernel_rfl))
  f299 := Try.func128.trans (congrArg some (by kernel_rfl))
  f300 := Try.func130.trans (congrArg some (by kernel_rfl))
  f301 := Try.func131.trans (congrArg some (by kernel_rfl))
  f328 := Try.func134.trans (congrArg some (by kernel_rfl))
  f329 := Try.func135.trans (congrArg some (by kernel_rfl))
  f330 := Try.func136.trans (congrArg some (by kernel_rfl))
  f331 := Try.func137.trans (congrArg some (by kernel_rfl))
  f332 := Try.func138.trans (congrArg some (by kernel_rfl))
  f343 := Try.func140.trans (congrArg some (by kernel_rfl))
  t0 := Try.underlying0
  a0 := Try.isAgg0
  z0 := Try.sizeOf0
  v0 := Try.zeroValue0
  t3 := Try.underlying3
  a3 := Try.isAgg3
  z3 := Try.sizeOf3
  v3 := Try.zeroValue3
  t4 := Try.underlying4
  a4 := Try.isAgg4
  z4 := Try.sizeOf4
  v4 := Try.zeroValue4
  t5 := Try.underlying5
  a5 := Try.isAgg5
  z5 := Try.sizeOf5
  v5 := Try.zeroValue5
  t9 := Try.underlying9
  a9 := Try.isAgg9
  z9 := Try.sizeOf9
  v9 := Try.zeroValue9
  t28 := Try.underlying25
  a28 := Try.isAgg25
  z28 := Try.sizeOf25
  v28 := Try.zeroValue25
  t46 := Try.underlying118
  a46 := Try.isAgg118
  z46 := Try.sizeOf118
  v46 := Try.zeroValue118
  t51 := Try.underlying131
  a51 := Try.isAgg131
  z51 := Try.sizeOf131
  v51 := Try.zeroValue131
  t53 := Try.underlying133
  a53 := Try.isAgg133
  z53 := Try.sizeOf133
  v53 := Try.zeroValue133
  t131 := Try.underlying128
  a131 := Try.isAgg128
  z131 := Try.sizeOf128
  v131 := Try.zeroValue128
  t182 := Try.underlying122
  a182 := Try.isAgg122
  z182 := Try.sizeOf122
  v182 := Try.zeroValue122
  t183 := Try.underlying123
  a183 := Try.isAgg123
  z183 := Try.sizeOf123
  v183 := Try.zeroValue123
  t218 := Try.underlying134
  a218 := Try.isAgg134
  z218 := Try.sizeOf134
  v218 := Try.zeroValue134
  t222 := Try.underlying138
  a222 := Try.isAgg138
  z222 := Try.sizeOf138
  v222 := Try.zeroValue138
  t228 := Try.underlying141
  a228 := Try.isAgg141
  z228 := Try.sizeOf141
  v228 := Try.zeroValue141
  t229 := Try.underlying62
  a229 := Try.isAgg62
  z229 := Try.sizeOf62
  v229 := Try.zeroValue62 }
theorem Try.ins_nil (p : Option Addr) (cap : Nat) (w : World) :
    Calls Try.prog 123 #[.slice p 0 cap, .int .i64 0, .int .i64 0] w fun e w' => e = .returned (.tuple #[]) ∧ w' = w := by
  go_enter Try.func123, Try.ntmps123
  go_wp2
  refine wp_loop_rounds 1 ?_
  rw [rounds_succ]
  go_wp2
  go_end0
  exact ⟨rfl, rfl⟩
theorem Try.pdq_nil (p : Option Addr) (cap : Nat) (w : World) :
    Calls Try.prog 121 #[.slice p 0 cap, .int .i64 0, .int .i64 0, .int .i64 0] w fun e w' => e = .returned (.tuple #[]) ∧ w' = w := by
  go_enter Try.func121, Try.ntmps121
  go_wp2
  refine wp_loop_rounds 1 ?_
  rw [rounds_succ]
  go_wp2_with (first | (go_at_call 123; refine (Try.ins_nil p cap _).mono ?_; rintro e w' ⟨rfl, rfl⟩))
  refine bodyPost_ret (results_none rfl _ _ _) rfl ?_
  exact ⟨rfl, rfl⟩
theorem Try.sort_nil (p : Option Addr) (cap : Nat) (w : World) :
    Calls Try.prog 120 #[.slice p 0 cap] w fun e w' => e = .returned (.tuple #[]) ∧ w' = w := by
  have hLen : ∀ w, Calls Try.prog 122 #[.int .u64 0] w fun e w' => e = .returned (.int .i64 0) ∧ w' = w := fun w => calls_of_every_depth fun D => AnyS.bits_LenIn { Try.lays191 with } D 0 w (by omega) (by omega)
  go_enter Try.func120, Try.ntmps120
  go_wp2_with (first
    | (go_at_call 122; refine (hLen _).mono ?_; rintro e w' ⟨rfl, rfl⟩)
    | (go_at_call 121; refine (Try.pdq_nil p cap _).mono ?_; rintro e w' ⟨rfl, rfl⟩))
  go_end0
  exact ⟨rfl, rfl⟩
theorem Try.ints_nil (p : Option Addr) (cap : Nat) (w : World) :
    Calls Try.prog 111 #[.slice p 0 cap] w fun e w' => e = .returned (.tuple #[]) ∧ w' = w := by
  go_enter Try.func111, Try.ntmps111
  go_wp2_with (first | (go_at_call 120; refine (Try.sort_nil p cap _).mono ?_; rintro e w' ⟨rfl, rfl⟩))
  go_end0
  exact ⟨rfl, rfl⟩
end Go.Proofs
namespace Go.Vs
open Go.Proofs Go.RowKit
set_option linter.unusedVariables false
def X_sort_Ints (g : G) (t : TE) (a0 : List Int) : Option (List Int) := gd (a0.length < 4611686018427387904) <| some (srt a0)
theorem c_X_sort_Ints {g : G} {t : TE} {a0 r : List Int} (hg : g = G.real) (ht : t = TE.real) (h : X_sort_Ints g t a0 = some r) : FnM Try.prog 111 (.m (.o 1 (t.d_I64 a0))) [] (.u []) (.m (.o 1 (t.d_I64 r))) := by
  obtain ⟨hl, h⟩ := of_gd h
  cases h
  subst ht
  exact fnM_sort a0 hl (fun blk cap w hH hb => calls_of_every_depth fun D => AnyS.sort_Ints_in Try.lays191 D blk 0 cap a0 w hH hb hl) (fun e w => Try.ints_nil none 0 w)
end Go.Vs
namespace Go.Vs
set_option maxRecDepth 100000
def ir73 : J :=
  .seq (.reg none [⟨(some 1), none, .box (.t 0)⟩,
     ⟨(some 2), none, .mv (.k (.c (.n 1)))⟩] [1])
  (.seq (.reg none [⟨(some 6), none, .bsl 1 []⟩,
     ⟨(some 3), none, .mv (.t 6)⟩] [1, 3])
  (.seq (.seq (.reg none [⟨(some 7), none, .ld true 5 (.t 1)⟩,
      ⟨(some 8), none, .call 32 true [(.t 7)]⟩,
      ⟨(some 9), none, .not (.t 8)⟩] [1, 3, 9])
   (.cond (.t 9)
    (.seq (.reg none [⟨(some 10), none, .mv (.t 3)⟩,
        ⟨(some 2), none, .mv (.t 10)⟩] [2])
     (.ret))
    (.skip)))
  (.seq (.seq (.reg none [⟨(some 11), none, .ld true 5 (.t 1)⟩,
      ⟨(some 12), none, .call 90 true [(.t 11)]⟩,
      ⟨(some 13), none, .len false (.t 12)⟩,
      ⟨(some 14), none, .mv (.k (V.i 0))⟩] [3, 12, 13, 14])
   (.bl 0 (.seq (.reg none [⟨(some 15), none, .bin .lss .i (.t 14) (.t 13)⟩] [3, 12, 13, 14, 15])
    (.seq (.cond (.t 15)
      (.skip)
      (.exit 0))
    (.seq (.block 1 (.seq (.reg none [⟨(some 16), none, .ia 2 (.t 12) (.t 14)⟩,
         ⟨(some 17), none, .ld true 2 (.t 16)⟩,
         ⟨(some 5), none, .alloc [.r (.v (.int .i64 0)), .r (.v (.int .i64 0))]⟩,
         ⟨none, none, .st 2 (.t 5) (.t 17)⟩] [3, 5, 12, 13, 14])
      (.reg none [⟨(some 18), none, .mv (.t 3)⟩,
        ⟨(some 19), none, .fa 0 (.t 5)⟩,
        ⟨(some 20), none, .ld false 1 (.t 19)⟩,
        ⟨(some 21), none, .bsl 1 [(.t 20)]⟩,
        ⟨(some 22), none, .app 1 8 true (.t 18) (.t 21)⟩,
        ⟨(some 3), none, .mv (.t 22)⟩] [3, 12, 13, 14])))
    (.reg none [⟨(some 23), none, .bin .add .i (.t 14) (.k (V.i 1))⟩,
      ⟨(some 14), none, .mv (.t 23)⟩] [3, 12, 13, 14]))))))
  (.seq (.reg none [⟨(some 24), none, .mv (.t 3)⟩,
     ⟨(some 25), none, .callm 111 (.t 24) []⟩] [3])
  (.seq (.reg none [⟨(some 26), none, .mv (.t 3)⟩,
     ⟨(some 2), none, .mv (.t 26)⟩] [2])
  (.ret))))))
def rv73 : List RV := [.t 2]
open Go.Proofs Go.IntWalk
set_option linter.unusedVariables false
set_option maxRecDepth 100000
set_option maxHeartbeats 4000000
def I_ItemsIn_l1 (g : G) (t : TE) (x2 : List Item) : Nat → Int → List Int → Option (List Int)
  | 0, v1, w1 =>
    some w1
  | n1 + 1, v1, w1 =>
    gt x2 (g.nat v1) fun x3 =>
    lP ([x3.Id]) fun (l2 : List Int) =>
    gd (((w1.length + l2.length) * 8 ≤ 70368744177664)) <|
    lP (w1 ++ l2) fun (l3 : List Int) =>
    I_ItemsIn_l1 g t x2 n1 (g.wrap .i64 (g.add v1 1)) l3
def I_ItemsIn (g : G) (t : TE) (a0 : Centre) : Option (List Int) :=
  lP ([]) fun (l1 : List Int) =>
  cl (I_IsCentre g t a0) fun x1 =>
  br x1
  (
   cl (I_everyItem g t a0) fun x2 =>
   gd (((g.int (g.dlen (t.d_Item x2))) ≤ 4611686018427387904)) <|
   cl (I_ItemsIn_l1 g t x2 (cntLt 0 (g.int (g.dlen (t.d_Item x2)))) 0 l1) fun y1 =>
   cl (X_sort_Ints g t y1) fun x4 =>
   gd ((x4.length = y1.length)) <|
   some x4)
  (
   some l1)
theorem fit73 : codeFit Try.prog Try.f73.ntmps (Try.f73.body.getD .skip) ir73 = true := by kernel_rfl
theorem c_I_ItemsIn {g : G} {t : TE} {a0 : Centre} {r : List Int} (hg : g = G.real) (ht : t = TE.real) (h : I_ItemsIn g t a0 = some r) : Fn Try.prog 73 [.g (Centre.rs t a0)] (.c (.o 1 (t.d_I64 r))) := by
  obtain ⟨X, hX⟩ := hide (.c (.o 1 (t.d_I64 r)) : X)
  rw [← hX]
  refine fn_of (rvs := rv73) (j := ir73) Try.func73 rfl fit73 (Nat.le_of_ble_eq_true rfl) (by kernel_rfl) prog_mixed ?_
  intro g2 F hg2 hF
  obtain rfl : g2 = g := hg2.unique.trans hg.symm
  clear hg2
  obtain ⟨wrap, lt, le, eq, quo, rem, band, bor, bxor, shl, shr, nat, int, add, sub, mul, cat, seq, slt, sub3, byte, llen, nadd, nsub, dlen, dapp, dset, drep, rd, rda, up, rsub, dsub, all, sle, slen, hasI, putI, hasS, putS, imin, imax, fzc⟩ := g2
  obtain ⟨r_Item, d_Item, r_Chute, d_Chute, r_Inlet, d_Inlet, r_I64, d_I64, r_U8, d_U8, d_InletF⟩ := t
  obtain ⟨a0_Belt, a0_Chutes, a0_Inlets, a0_Plan, a0_Now⟩ := a0
  unfold I_ItemsIn at h
  try dsimp only at h
  cbv
  obtain ⟨l1, hl1, h⟩ := of_lP h
  try dsimp only at h
  refine ANew.mk (d_I64 l1) (dlen (d_I64 l1)) (by rw [← hl1]; exact lit_I64 hg ht []) (by rw [← hl1]; exact litn_I64 hg ht []) ?_
  cbv
  obtain ⟨x1, hx1, h⟩ := of_cl h
  try dsimp only at h
  refine ACall.mk _ _ rfl (hF _ _ _ (c_I_IsCentre hg ht hx1)) (.inl rfl) (Nat.le_of_ble_eq_true rfl) ?_
  cbv
  cases hb1 : x1 with
  | true =>
    rw [br_true hb1] at h
    cbv
    obtain ⟨x2, hx2, h⟩ := of_cl h
    try dsimp only at h
    refine ACall.mk _ _ rfl (hF _ _ _ (c_I_everyItem hg ht hx2)) (.inl rfl) (Nat.le_of_ble_eq_true rfl) ?_
    cbv
    obtain ⟨hB1, h⟩ := of_gd h
    obtain ⟨o1, ho1, h⟩ := of_cl h
    try dsimp only at h
    try rw [hg] at ho1
    try rw [ht] at ho1
    refine ABL.mk { p : Nat × Int × List Int // p.1 = cntLt p.2.1 (int (dlen (d_Item x2))) ∧ 0 ≤ p.2.1 ∧ I_ItemsIn_l1 G.real TE.real x2 p.1 p.2.1 p.2.2 = some o1 } (fun ⟨⟨n1, v1, w1⟩, _⟩ => ({ sl := [(3, .c (.f 0 1 0 (dlen (d_I64 w1)))), (12, .c (.f 1 2 0 (dlen (d_Item x2)))), (13, .c (.r (.v (.int .i64 (int (dlen (d_Item x2))))))), (14, .c (.r (.v (.int .i64 v1))))], tab := [(0, some (.arr 1 (d_I64 w1))), (1, some (.arr 2 (d_Item x2)))] } : St)) 2 (fun p => p.1.1) ⟨(cntLt 0 (int (dlen (d_Item x2))), 0, l1), rfl, Int.le_refl _, ho1⟩ (List Int) (fun y1 => ({ sl := [(3, .c (.f 0 1 0 (dlen (d_I64 y1))))], tab := [(0, some (.arr 1 (d_I64 y1)))] } : St)) 1 (fun y => o1 = y) ?_ ?_ ?_
    · refine Wk.of [(0, some 32), (1, some 128)] rfl rfl ?_ ?_
      · cbv
        all_goals exact ⟨⟨_, rfl, rfl⟩, ⟨_, rfl, rfl⟩, ⟨_, rfl, rfl⟩, ⟨_, rfl, rfl⟩, trivial⟩
      · cbv
        all_goals exact ⟨⟨_, rfl, rfl⟩, ⟨_, rfl, rfl⟩, trivial⟩
    · rintro ⟨⟨n1, v1, w1⟩, hn1, hi1, h_1⟩ hq1
      try dsimp only at hn1 hi1 h_1
      clear hq1
      cbv
      rcases n1 with _ | n1
      · have hb2 : lt v1 (int (dlen (d_Item x2))) = false := ltC_false hg hn1
        rw [I_ItemsIn_l1] at h_1
        try rw [← hg] at h_1
        try rw [← ht] at h_1
        try dsimp only at h_1
        rw [hb2]
        cbv
        refine ⟨w1, Wk.of [(0, some 0)] rfl rfl ?_ ?_, (Option.some.inj h_1).symm⟩
        · cbv
          all_goals exact ⟨⟨_, rfl, rfl⟩, trivial⟩
        · cbv
          all_goals exact ⟨⟨_, rfl, rfl⟩, trivial⟩
      · have hb2 : lt v1 (int (dlen (d_Item x2))) = true := ltC_true hg hn1
        have hl1 := ltC_le hn1
        have hs1 := stepltC hg hn1 hi1 hB1 (by decide)
        rw [I_ItemsIn_l1] at h_1
        try rw [← hg] at h_1
        try rw [← ht] at h_1
        try dsimp only at h_1
        rw [hb2]
        cbv
        refine AStep.mk (rg_int hg hi1 hl1) ?_
        cbv
        obtain ⟨x3, hx3, h_1⟩ := of_gt h_1
        obtain ⟨x3_Id, x3_Dest⟩ := x3
        try dsimp only at h_1
        refine AGet.mk _ (d_get_Item hg ht hx3) ?_
        cbv
        obtain ⟨l2, hl2, h_1⟩ := of_lP h_1
        try dsimp only at h_1
        refine ANew.mk (d_I64 l2) (dlen (d_I64 l2)) (by rw [← hl2]; exact lit_I64 hg ht [x3_Id]) (by rw [← hl2]; exact litn_I64 hg ht [x3_Id]) ?_
        cbv
        obtain ⟨hc1, h_1⟩ := of_gd h_1
        refine AStep.mk ⟨⟨rfl, (dlen_I64 hg ht _)⟩, (app_ok_I64 hg ht (dlen_I64 hg ht _) rfl hc1)⟩ ?_
        cbv
        obtain ⟨l3, hl3, h_1⟩ := of_lP h_1
        try dsimp only at h_1
        refine ANew.mk (d_I64 l3) (dlen (d_I64 l3)) (by rw [← hl3]; exact app_I64 hg ht (dlen_I64 hg ht _) rfl) (by rw [← hl3]; exact appl_I64 hg ht (dlen_I64 hg ht _) rfl) ?_
        cbv
        try rw [hg] at h_1
        try rw [ht] at h_1
        refine ⟨⟨(n1, (wrap .i64 (add v1 1)), l3), hs1.1, hs1.2, h_1⟩, Wk.of [(0, some 146), (1, some 1)] rfl rfl ?_ ?_, Nat.lt_succ_self _⟩
        · cbv
          all_goals exact ⟨⟨_, rfl, rfl⟩, ⟨_, rfl, rfl⟩, ⟨_, rfl, rfl⟩, ⟨_, rfl, rfl⟩, trivial⟩
        · cbv
          all_goals exact ⟨⟨_, rfl, rfl⟩, ⟨_, rfl, rfl⟩, trivial⟩
    · rintro y1 hy1
      replace hy1 := hy1.symm
      subst hy1
      try dsimp only [lr, lrL, lrp, lrpL] at h
      cbv
      refine AStep.mk ⟨rfl, (dlen_I64 hg ht _)⟩ ?_
      cbv
      obtain ⟨x4, hx4, h⟩ := of_cl h
      try dsimp only at h
      refine ACallM.mk _ _ _ _ rfl rfl (hF _ _ _ (c_X_sort_Ints hg ht hx4)) rfl (Nat.le_of_ble_eq_true rfl) (Nat.le_of_ble_eq_true rfl) ?_
      cbv
      obtain ⟨hc2, h⟩ := of_gd h
      obtain rfl := Option.some.inj h
      exact ARet.mk ⟨rfl, (lenp_I64 ht (dlen_I64 hg ht _) hc2)⟩ hX.symm
  | false =>
    rw [br_false hb1] at h
    cbv
    obtain rfl := Option.some.inj h
    exact ARet.mk ⟨rfl, (dlen_I64 hg ht _)⟩ hX.symm
end Go.Vs
namespace Go.Vs
set_option maxRecDepth 100000
def ir22 : J :=
  .seq (.reg none [⟨(some 2), none, .mv (.k (V.b false))⟩] [0])
  (.seq (.seq (.reg none [⟨(some 12), none, .mv (.t 0)⟩,
      ⟨(some 13), none, .call 33 true [(.t 12)]⟩] [0, 13])
   (.cond (.t 13)
    (.seq (.reg none [⟨(some 2), none, .mv (.k (V.b true))⟩] [2])
     (.ret))
    (.skip)))
  (.seq (.reg none [⟨(some 15), none, .mv (.t 0)⟩,
     ⟨(some 16), none, .call 34 false [(.t 15)]⟩,
     ⟨(some 14), none, .mv (.t 16)⟩,
     ⟨(some 17), none, .ext 0 (.t 14)⟩,
     ⟨(some 18), none, .ext 1 (.t 14)⟩,
     ⟨(some 3), none, .alloc [.n 2, .n 3, .n 2, .n 1, .r (.v (.int .i64 0))]⟩,
     ⟨none, none, .st 5 (.t 3) (.t 17)⟩,
     ⟨(some 4), none, .mv (.t 18)⟩] [3, 4])
  (.seq (.reg none [⟨(some 19), none, .ld true 5 (.t 3)⟩,
     ⟨(some 20), none, .mv (.t 4)⟩,
     ⟨(some 21), none, .call 36 false [(.t 19), (.t 20)]⟩,
     ⟨(some 5), none, .alloc [.n 2, .n 3, .n 2, .n 1, .r (.v (.int .i64 0))]⟩,
     ⟨none, none, .st 5 (.t 5) (.t 21)⟩] [3, 5])
  (.seq (.reg none [⟨(some 22), none, .ld true 5 (.t 3)⟩,
     ⟨(some 23), none, .call 73 false [(.t 22)]⟩,
     ⟨(some 6), none, .mv (.t 23)⟩] [3, 5, 6])
  (.seq (.seq (.reg (some [[], [], [1], [0, 1, 2], [0, 1, 2, 3], [0, 1, 2, 3, 4], [0, 1, 2, 3, 4, 5], [0, 1, 2, 3, 4, 5, 6], [0, 1, 2, 3, 4, 5], [0, 1, 2, 3, 4, 5, 6, 7, 8], [0, 1, 2, 3, 4, 5, 6, 7, 8, 9], [0, 1, 2, 3, 4, 5, 6, 7, 8, 9, 10]]) [⟨(some 24), none, .mv (.t 6)⟩,
      ⟨(some 25), none, .ld true 5 (.t 5)⟩,
      ⟨(some 26), none, .call 73 false [(.t 25)]⟩,
      ⟨(some 27), none, .call 38 true [(.t 24), (.t 26)]⟩,
      ⟨(some 28), none, .not (.t 27)⟩,
      ⟨(some 29), none, .mv (.t 28)⟩,
      ⟨(some 30), (some (29, false)), .ld true 5 (.t 5)⟩,
      ⟨(some 31), (some (29, false)), .call 32 true [(.t 30)]⟩,
      ⟨(some 32), (some (29, false)), .ld true 5 (.t 3)⟩,
      ⟨(some 33), (some (29, false)), .call 31 true [(.t 32)]⟩,
      ⟨(some 34), (some (29, false)), .bin .neq .b (.t 31) (.t 33)⟩,
      ⟨(some 35), none, .pick (.t 29) (.k (V.b true)) (.t 34)⟩] [3, 5, 6, 35])
   (.cond (.t 35)
    (.seq (.reg none [⟨(some 2), none, .mv (.k (V.b false))⟩] [2])
     (.ret))
    (.skip)))
  (.seq (.reg none [⟨(some 7), none, .mv (.k (V.i 0))⟩] [3, 5, 6, 7])
  (.seq (.seq (.reg none [⟨(some 8), none, .mv (.k (V.i 0))⟩] [3, 5, 6, 7, 8])
   (.bl 0 (.seq (.seq (.reg none [⟨(some 36), none, .mv (.t 8)⟩,
        ⟨(some 37), none, .fa 1 (.t 5)⟩,
        ⟨(some 38), none, .ld false 1 (.t 37)⟩,
        ⟨(some 39), none, .len false (.t 38)⟩,
        ⟨(some 40), none, .bin .lss .i (.t 36) (.t 39)⟩] [3, 5, 6, 7, 8, 40])
     (.cond (.t 40)
      (.skip)
      (.exit 0)))
    (.seq (.block 1 (.gh (.ga (.reg none [⟨(some 43), none, .mv (.t 7)⟩,
         ⟨(some 44), none, .fa 1 (.t 5)⟩,
         ⟨(some 45), none, .ld false 1 (.t 44)⟩,
         ⟨(some 46), none, .mv (.t 8)⟩,
         ⟨(some 47), none, .ia 3 (.t 45) (.t 46)⟩,
         ⟨(some 48), none, .fa 2 (.t 47)⟩,
         ⟨(some 49), none, .ld false 1 (.t 48)⟩,
         ⟨(some 50), none, .len false (.t 49)⟩,
         ⟨(some 51), none, .bin .add .i (.t 43) (.t 50)⟩,
         ⟨(some 7), none, .mv (.t 51)⟩] [3, 5, 6, 7, 8]))))
    (.reg none [⟨(some 41), none, .mv (.t 8)⟩,
      ⟨(some 42), none, .bin .add .i (.t 41) (.k (V.i 1))⟩,
      ⟨(some 8), none, .mv (.t 42)⟩] [3, 5, 6, 7, 8])))))
  (.seq (.seq (.reg (some [[], [0], [0, 1], [0, 1, 2], [0, 1, 2, 3], [0, 1, 2], [0, 1, 2, 3, 4, 5], [0, 1, 2, 3, 4, 5, 6], [0, 1, 2], [0, 1, 2, 3, 4, 5, 6, 7, 8], [0, 1, 2], [0, 1, 2, 10], [0, 1, 2, 3, 4, 5, 6, 7, 8, 9, 10, 11], [0, 1, 2, 3, 4, 5, 6, 7, 8, 9, 10, 11, 12]]) [⟨(some 52), none, .ld true 5 (.t 3)⟩,
      ⟨(some 53), none, .call 31 true [(.t 52)]⟩,
      ⟨(some 54), none, .mv (.t 53)⟩,
      ⟨(some 55), (some (54, true)), .ld true 5 (.t 5)⟩,
      ⟨(some 56), (some (54, true)), .call 30 true [(.t 55)]⟩,
      ⟨(some 57), (some (54, true)), .ld true 5 (.t 5)⟩,
      ⟨(some 58), (some (54, true)), .call 27 true [(.t 57)]⟩,
      ⟨(some 59), (some (54, true)), .bin .add .i (.t 56) (.t 58)⟩,
      ⟨(some 60), (some (54, true)), .mv (.t 7)⟩,
      ⟨(some 61), (some (54, true)), .bin .add .i (.t 59) (.t 60)⟩,
      ⟨(some 62), (some (54, true)), .mv (.t 6)⟩,
      ⟨(some 63), (some (54, true)), .len false (.t 62)⟩,
      ⟨(some 64), (some (54, true)), .bin .neq .i (.t 61) (.t 63)⟩,
      ⟨(some 65), none, .pick (.t 54) (.t 64) (.k (V.b false))⟩] [5, 6, 65])
   (.cond (.t 65)
    (.seq (.reg none [⟨(some 2), none, .mv (.k (V.b false))⟩] [2])
     (.ret))
    (.skip)))
  (.seq (.seq (.reg none [⟨(some 9), none, .mv (.k (V.i 0))⟩] [5, 6, 9])
   (.bl 2 (.seq (.seq (.reg none [⟨(some 66), none, .mv (.t 9)⟩,
        ⟨(some 67), none, .mv (.t 6)⟩,
        ⟨(some 68), none, .len false (.t 67)⟩,
        ⟨(some 69), none, .bin .lss .i (.t 66) (.t 68)⟩] [5, 6, 9, 69])
     (.cond (.t 69)
      (.skip)
      (.exit 2)))
    (.seq (.block 3 (.seq (.reg (some [[], [], [], [1, 2], [1, 2, 3], [0, 1, 2, 3, 4], [0, 1, 2, 3, 4, 5], [0, 1, 2, 3, 4, 5, 6], [0, 1, 2, 3, 4, 5, 6], [0, 1, 2, 3, 4, 5, 6, 7], [0, 1, 2, 3, 4, 5, 6, 7, 8, 9]]) [⟨(some 73), none, .ld true 5 (.t 5)⟩,
         ⟨(some 74), none, .mv (.t 6)⟩,
         ⟨(some 75), none, .mv (.t 9)⟩,
         ⟨(some 76), none, .ia 1 (.t 74) (.t 75)⟩,
         ⟨(some 77), none, .ld false 1 (.t 76)⟩,
         ⟨(some 78), none, .call 52 true [(.t 73), (.t 77)]⟩,
         ⟨(some 72), none, .mv (.t 78)⟩,
         ⟨(some 79), none, .ext 0 (.t 72)⟩,
         ⟨(some 80), none, .ext 1 (.t 72)⟩,
         ⟨(some 10), none, .mv (.t 79)⟩,
         ⟨(some 11), none, .mv (.t 80)⟩] [5, 6, 9, 10])
      (.seq (.reg (some [[], [0], [0, 1], [0, 1, 2], [0, 1, 2, 3], [0, 1, 2, 3, 4], [0, 1, 2, 3, 4, 5], [0, 1, 2, 3, 4, 5], [0, 1, 2, 3, 4, 5, 7], [0, 1, 2, 3, 4, 5, 6, 7, 8], [0, 1, 2, 3, 4, 5, 6, 7, 8, 9], [0, 1, 2, 3, 4, 5], [0, 1, 2, 3, 4, 5], [0, 1, 2, 3, 4, 5, 11, 12], [0, 1, 2, 3, 4, 5, 11, 12, 13], [0, 1, 2, 3, 4, 5, 6, 7, 8, 9, 10, 11, 12, 13, 14], [0, 1, 2, 3, 4, 5, 6, 7, 8, 9, 10, 11, 12, 13, 14, 15], [0, 1, 2, 3, 4, 5, 6, 7, 8, 9, 10, 11, 12, 13, 14, 15, 16]]) [⟨(some 81), none, .mv (.t 10)⟩,
         ⟨(some 82), none, .bin .eql .i (.t 81) (.k (V.i 0))⟩,
         ⟨(some 83), none, .mv (.t 82)⟩,
         ⟨(some 84), (some (83, false)), .mv (.t 9)⟩,
         ⟨(some 85), (some (83, false)), .bin .gtr .i (.t 84) (.k (V.i 0))⟩,
         ⟨(some 86), (some (83, false)), .mv (.t 85)⟩,
         ⟨(some 87), (some (86, true)), .mv (.t 6)⟩,
         ⟨(some 88), (some (86, true)), .mv (.t 9)⟩,
         ⟨(some 89), (some (86, true)), .bin .sub .i (.t 88) (.k (V.i 1))⟩,
         ⟨(some 90), (some (86, true)), .ia 1 (.t 87) (.t 89)⟩,
         ⟨(some 91), (some (86, true)), .ld false 1 (.t 90)⟩,
         ⟨(some 92), (some (86, true)), .mv (.t 6)⟩,
         ⟨(some 93), (some (86, true)), .mv (.t 9)⟩,
         ⟨(some 94), (some (86, true)), .ia 1 (.t 92) (.t 93)⟩,
         ⟨(some 95), (some (86, true)), .ld false 1 (.t 94)⟩,
         ⟨(some 96), (some (86, true)), .bin .geq .i (.t 91) (.t 95)⟩,
         ⟨(some 97), (some (83, false)), .pick (.t 86) (.t 96) (.k (V.b false))⟩,
         ⟨(some 98), none, .pick (.t 83) (.k (V.b true)) (.t 97)⟩] [5, 6, 9, 98])
      (.cond (.t 98)
       (.seq (.reg none [⟨(some 2), none, .mv (.k (V.b false))⟩] [2])
        (.ret))
       (.skip)))))
    (.reg none [⟨(some 70), none, .mv (.t 9)⟩,
      ⟨(some 71), none, .bin .add .i (.t 70) (.k (V.i 1))⟩,
      ⟨(some 9), none, .mv (.t 71)⟩] [5, 6, 9])))))
  (.seq (.reg none [⟨(some 2), none, .mv (.k (V.b true))⟩] [2])
  (.ret)))))))))))
def rv22 : List RV := [.t 2]
open Go.Proofs Go.IntWalk
set_option linter.unusedVariables false
set_option maxRecDepth 100000
set_option maxHeartbeats 4000000
def L_FnBeltKeeps_l6 (g : G) (t : TE) (x3 : Centre) (x4 : List Int) : List Int → Int → Option (LR Bool Unit)
  | [], v8 =>
    some (LR.out ())
  | z6 :: ls6, v8 =>
    cl (I_WhereIs g t x3 z6) fun x21 =>
    br (g.eq x21.1 0)
    (
     some (LR.ret false))
    (
     br (g.lt 0 v8)
     (
      gd (((0 : Int) ≤ (g.wrap .i64 (g.sub v8 1)))) <|
      gt x4 (g.nat (g.wrap .i64 (g.sub v8 1))) fun x22 =>
      br (g.le z6 x22)
      (
       some (LR.ret false))
      (
       L_FnBeltKeeps_l6 g t x3 x4 ls6 (g.wrap .i64 (g.add v8 1))))
     (
      L_FnBeltKeeps_l6 g t x3 x4 ls6 (g.wrap .i64 (g.add v8 1))))
def L_FnBeltKeeps_l5 (g : G) (t : TE) (x3 : Centre) (x4 : List Int) : List Int → Int → Option (LR Bool Unit)
  | [], v7 =>
    some (LR.out ())
  | z5 :: ls5, v7 =>
    cl (I_WhereIs g t x3 z5) fun x19 =>
    br (g.eq x19.1 0)
    (
     some (LR.ret false))
    (
     br (g.lt 0 v7)
     (
      gd (((0 : Int) ≤ (g.wrap .i64 (g.sub v7 1)))) <|
      gt x4 (g.nat (g.wrap .i64 (g.sub v7 1))) fun x20 =>
      br (g.le z5 x20)
      (
       some (LR.ret false))
      (
       L_FnBeltKeeps_l5 g t x3 x4 ls5 (g.wrap .i64 (g.add v7 1))))
     (
      L_FnBeltKeeps_l5 g t x3 x4 ls5 (g.wrap .i64 (g.add v7 1))))
def L_FnBeltKeeps_l4 (g : G) (t : TE) : List Chute → Int → Int
  | [], v5 =>
    v5
  | z4 :: ls4, v5 =>
    L_FnBeltKeeps_l4 g t ls4 (g.wrap .i64 (g.add v5 (g.llen (t.r_Item z4.Held))))
def L_FnBeltKeeps_l3 (g : G) (t : TE) (x3 : Centre) (x4 : List Int) : List Int → Int → Option (LR Bool Unit)
  | [], v4 =>
    some (LR.out ())
  | z3 :: ls3, v4 =>
    cl (I_WhereIs g t x3 z3) fun x14 =>
    br (g.eq x14.1 0)
    (
     some (LR.ret false))
    (
     br (g.lt 0 v4)
     (
      gd (((0 : Int) ≤ (g.wrap .i64 (g.sub v4 1)))) <|
      gt x4 (g.nat (g.wrap .i64 (g.sub v4 1))) fun x15 =>
      br (g.le z3 x15)
      (
       some (LR.ret false))
      (
       L_FnBeltKeeps_l3 g t x3 x4 ls3 (g.wrap .i64 (g.add v4 1))))
     (
      L_FnBeltKeeps_l3 g t x3 x4 ls3 (g.wrap .i64 (g.add v4 1))))
def L_FnBeltKeeps_l2 (g : G) (t : TE) (x3 : Centre) (x4 : List Int) : List Int → Int → Option (LR Bool Unit)
  | [], v3 =>
    some (LR.out ())
  | z2 :: ls2, v3 =>
    cl (I_WhereIs g t x3 z2) fun x12 =>
    br (g.eq x12.1 0)
    (
     some (LR.ret false))
    (
     br (g.lt 0 v3)
     (
      gd (((0 : Int) ≤ (g.wrap .i64 (g.sub v3 1)))) <|
      gt x4 (g.nat (g.wrap .i64 (g.sub v3 1))) fun x13 =>
      br (g.le z2 x13)
      (
       some (LR.ret false))
      (
       L_FnBeltKeeps_l2 g t x3 x4 ls2 (g.wrap .i64 (g.add v3 1))))
     (
      L_FnBeltKeeps_l2 g t x3 x4 ls2 (g.wrap .i64 (g.add v3 1))))
def L_FnBeltKeeps_l1 (g : G) (t : TE) : List Chute → Int → Int
  | [], v1 =>
    v1
  | z1 :: ls1, v1 =>
    L_FnBeltKeeps_l1 g t ls1 (g.wrap .i64 (g.add v1 (g.llen (t.r_Item z1.Held))))
def L_FnBeltKeeps (g : G) (t : TE) (a0 : List Int) : Option Bool :=
  lP (L_big g t a0) fun x1 =>
  br x1
  (
   some true)
  (
   cl (S_DrawRunCentre g t a0) fun x2 =>
   cl (I_RunCentre g t (Centre.mk x2.1.Belt x2.1.Chutes x2.1.Inlets x2.1.Plan x2.1.Now) x2.2) fun x3 =>
   cl (I_ItemsIn g t (Centre.mk x2.1.Belt x2.1.Chutes x2.1.Inlets x2.1.Plan x2.1.Now)) fun x4 =>
   cl (I_ItemsIn g t x3) fun x5 =>
   cl (L_ints g t x4 x5) fun x6 =>
   br x6
   (
    cl (I_IsCentre g t x3) fun x7 =>
    cl (S_IsCentre g t (Centre.mk x2.1.Belt x2.1.Chutes x2.1.Inlets x2.1.Plan x2.1.Now)) fun x8 =>
    br x7
    (
     br x8
     (
      lP (L_FnBeltKeeps_l1 g t x3.Chutes 0) fun y1 =>
      cl (S_IsCentre g t (Centre.mk x2.1.Belt x2.1.Chutes x2.1.Inlets x2.1.Plan x2.1.Now)) fun x9 =>
      br x9
      (
       lP (I_CountBelt g t x3) fun x10 =>
       lP (I_CountWait g t x3) fun x11 =>
       br (g.eq (g.wrap .i64 (g.add (g.wrap .i64 (g.add x10 x11)) y1)) (g.llen (t.r_I64 x4)))
       (
        cl (L_FnBeltKeeps_l2 g t x3 x4 x4 0) fun o2 => lr o2 fun y2 =>
        some true)
       (
        some false))
      (
       cl (L_FnBeltKeeps_l3 g t x3 x4 x4 0) fun o3 => lr o3 fun y3 =>
       some true))
     (
      some false))
    (
     br x8
     (
      some false)
     (
      lP (L_FnBeltKeeps_l4 g t x3.Chutes 0) fun y4 =>
      cl (S_IsCentre g t (Centre.mk x2.1.Belt x2.1.Chutes x2.1.Inlets x2.1.Plan x2.1.Now)) fun x16 =>
      br x16
      (
       lP (I_CountBelt g t x3) fun x17 =>
       lP (I_CountWait g t x3) fun x18 =>
       br (g.eq (g.wrap .i64 (g.add (g.wrap .i64 (g.add x17 x18)) y4)) (g.llen (t.r_I64 x4)))
       (
        cl (L_FnBeltKeeps_l5 g t x3 x4 x4 0) fun o5 => lr o5 fun y5 =>
        some true)
       (
        some false))
      (
       cl (L_FnBeltKeeps_l6 g t x3 x4 x4 0) fun o6 => lr o6 fun y6 =>
       some true))))
   (
    some false))
theorem fit22 : codeFit Try.prog Try.f22.ntmps (Try.f22.body.getD .skip) ir22 = true := by kernel_rfl
theorem c_L_FnBeltKeeps {g : G} {t : TE} {a0 : List Int} {r : Bool} (hg : g = G.real) (ht : t = TE.real) (h : L_FnBeltKeeps g t a0 = some r) : Fn Try.prog 22 [.c (.s 1 (t.r_U8 a0))] (.c (.r (.v (.bool r)))) := by
  obtain ⟨X, hX⟩ := hide (.c (.r (.v (.bool r))) : X)
  rw [← hX]
  refine fn_of (rvs := rv22) (j := ir22) Try.func22 rfl fit22 (Nat.le_of_ble_eq_true rfl) (by kernel_rfl) prog_mixed ?_
  intro g2 F hg2 hF
  obtain rfl : g2 = g := hg2.unique.trans hg.symm
  clear hg2
  obtain ⟨wrap, lt, le, eq, quo, rem, band, bor, bxor, shl, shr, nat, int, add, sub, mul, cat, seq, slt, sub3, byte, llen, nadd, nsub, dlen, dapp, dset, drep, rd, rda, up, rsub, dsub, all, sle, slen, hasI, putI, hasS, putS, imin, imax, fzc⟩ := g2
  obtain ⟨r_Item, d_Item, r_Chute, d_Chute, r_Inlet, d_Inlet, r_I64, d_I64, r_U8, d_U8, d_InletF⟩ := t
  have hrda_Item : ∀ l, rda (d_Item l) = r_Item l := rda_Item hg ht
  have hrda_Chute : ∀ l, rda (d_Chute l) = r_Chute l := rda_Chute hg ht
  have hrda_Inlet : ∀ l, rda (d_Inlet l) = r_Inlet l := rda_Inlet hg ht
  have hrda_I64 : ∀ l, rda (d_I64 l) = r_I64 l := rda_I64 hg ht
  unfold L_FnBeltKeeps at h
  try dsimp only at h
  cbv
  obtain ⟨x1, hx1, h⟩ := of_lP h
  try dsimp only at h
  refine ACall.mk _ _ rfl (hF _ _ _ (c_L_big hg ht hx1)) (.inl rfl) (Nat.le_of_ble_eq_true rfl) ?_
  cbv
  cases hb1 : x1 with
  | true =>
    rw [br_true hb1] at h
    cbv
    obtain rfl := Option.some.inj h
    exact ARet.mk trivial hX.symm
  | false =>
    rw [br_false hb1] at h
    cbv
    obtain ⟨x2, hx2, h⟩ := of_cl h
    obtain ⟨⟨x2_1_Belt, x2_1_Chutes, x2_1_Inlets, x2_1_Plan, x2_1_Now⟩, x2_2⟩ := x2
    try dsimp only at h
    refine ACallR.mk _ _ (.u [.g [.r (.s 2 (r_Item x2_1_Belt)), .r (.s 3 (r_Chute x2_1_Chutes)), .r (.s 2 (r_Inlet x2_1_Inlets)), .r (.s 1 (r_I64 x2_1_Plan)), .r (.v (.int .i64 x2_1_Now))], .c (.r (.v (.int .i64 x2_2)))]) rfl (hF _ _ _ (c_S_DrawRunCentre hg ht hx2)) (.inl rfl) (Nat.le_of_ble_eq_true rfl) (by cbv; (try simp only [hrda_Chute, hrda_I64, hrda_Inlet, hrda_Item])) ?_
    cbv
    obtain ⟨x3, hx3, h⟩ := of_cl h
    obtain ⟨x3_Belt, x3_Chutes, x3_Inlets, x3_Plan, x3_Now⟩ := x3
    try dsimp only at h
    refine ACallR.mk _ _ (.g [.r (.s 2 (r_Item x3_Belt)), .r (.s 3 (r_Chute x3_Chutes)), .r (.s 2 (r_Inlet x3_Inlets)), .r (.s 1 (r_I64 x3_Plan)), .r (.v (.int .i64 x3_Now))]) rfl (hF _ _ _ (c_I_RunCentre hg ht hx3)) (.inl rfl) (Nat.le_of_ble_eq_true rfl) (by cbv; (try simp only [hrda_Chute, hrda_I64, hrda_Inlet, hrda_Item])) ?_
    cbv
    obtain ⟨x4, hx4, h⟩ := of_cl h
    try dsimp only at h
    refine ACallR.mk _ _ (.c (.r (.s 1 (r_I64 x4)))) rfl (hF _ _ _ (c_I_ItemsIn hg ht hx4)) (.inl rfl) (Nat.le_of_ble_eq_true rfl) (by cbv; (try simp only [hrda_I64])) ?_
    cbv
    obtain ⟨x5, hx5, h⟩ := of_cl h
    try dsimp only at h
    refine ACallR.mk _ _ (.c (.r (.s 1 (r_I64 x5)))) rfl (hF _ _ _ (c_I_ItemsIn hg ht hx5)) (.inl rfl) (Nat.le_of_ble_eq_true rfl) (by cbv; (try simp only [hrda_I64])) ?_
    cbv
    obtain ⟨x6, hx6, h⟩ := of_cl h
    try dsimp only at h
    refine ACall.mk _ _ rfl (hF _ _ _ (c_L_ints hg ht hx6)) (.inl rfl) (Nat.le_of_ble_eq_true rfl) ?_
    cbv
    cases hb2 : x6 with
    | true =>
      rw [br_true hb2] at h
      cbv
      try (rw [hb2]; cbv)
      obtain ⟨x7, hx7, h⟩ := of_cl h
      try dsimp only at h
      refine ACall.mk _ _ rfl (hF _ _ _ (c_I_IsCentre hg ht hx7)) (.inl rfl) (Nat.le_of_ble_eq_true rfl) ?_
      cbv
      try (rw [hb2]; cbv)
      try (rw [hb2]; cbv)
      obtain ⟨x8, hx8, h⟩ := of_cl h
      try dsimp only at h
      refine ACall.mk _ _ rfl (hF _ _ _ (c_S_IsCentre hg ht hx8)) (.inl rfl) (Nat.le_of_ble_eq_true rfl) ?_
      cbv
      try (rw [hb2]; cbv)
      cases hb3 : x7 with
      | true =>
        rw [br_true hb3] at h
        cbv
        cases hb4 : x8 with
        | true =>
          rw [br_true hb4] at h
          cbv
          try (rw [hb2]; cbv)
          obtain ⟨o1, ho1, h⟩ := of_lP h
          try dsimp only at h
          try rw [hg] at ho1
          try rw [ht] at ho1
          refine ABL.mk { p : Nat × Int × Int // p.1 ≤ x3_Chutes.length ∧ p.2.1 = ((p.1 : Nat) : Int) ∧ L_FnBeltKeeps_l1 G.real TE.real (List.drop p.1 x3_Chutes) p.2.2 = o1 } (fun ⟨⟨k1, v2, v1⟩, _⟩ => ({ sl := [(3, .c (.p 0 5 0 0)), (5, .c (.p 1 5 0 0)), (6, .c (.r (.s 1 (r_I64 x4)))), (7, .c (.r (.v (.int .i64 v1)))), (8, .c (.r (.v (.int .i64 v2))))], tab := [(0, some (.foc 5 [] [.r (.s 2 (r_Item x2_1_Belt)), .r (.s 3 (r_Chute x2_1_Chutes)), .r (.s 2 (r_Inlet x2_1_Inlets)), .r (.s 1 (r_I64 x2_1_Plan)), .r (.v (.int .i64 x2_1_Now))] [])), (1, some (.foc 5 [] [.r (.s 2 (r_Item x3_Belt)), .r (.s 3 (r_Chute x3_Chutes)), .r (.s 2 (r_Inlet x3_Inlets)), .r (.s 1 (r_I64 x3_Plan)), .r (.v (.int .i64 x3_Now))] []))] } : St)) 2 (fun p => x3_Chutes.length - p.1.1) ⟨(0, 0, 0), Nat.zero_le _, rfl, ho1⟩ (Int) (fun y1 => ({ sl := [(3, .c (.p 0 5 0 0)), (5, .c (.p 1 5 0 0)), (6, .c (.r (.s 1 (r_I64 x4)))), (7, .c (.r (.v (.int .i64 y1))))], tab := [(0, some (.foc 5 [] [.r (.s 2 (r_Item x2_1_Belt)), .r (.s 3 (r_Chute x2_1_Chutes)), .r (.s 2 (r_Inlet x2_1_Inlets)), .r (.s 1 (r_I64 x2_1_Plan)), .r (.v (.int .i64 x2_1_Now))] [])), (1, some (.foc 5 [] [.r (.s 2 (r_Item x3_Belt)), .r (.s 3 (r_Chute x3_Chutes)), .r (.s 2 (r_Inlet x3_Inlets)), .r (.s 1 (r_I64 x3_Plan)), .r (.v (.int .i64 x3_Now))] []))] } : St)) 2 (fun y => o1 = y) ?_ ?_ ?_
          · refine Wk.of [(0, some 128), (1, some 224)] rfl rfl ?_ ?_
            · cbv
              all_goals exact ⟨⟨_, rfl, rfl⟩, ⟨_, rfl, rfl⟩, ⟨_, rfl, rfl⟩, ⟨_, rfl, rfl⟩, ⟨_, rfl, rfl⟩, trivial⟩
            · cbv
              all_goals exact ⟨⟨_, rfl, _, rfl, rfl, rfl, rfl, rfl, rfl, trivial⟩, ⟨_, rfl, _, rfl, rfl, rfl, rfl, rfl, rfl, trivial⟩, trivial⟩
          · rintro ⟨⟨k1, v2, v1⟩, hk1, hi1, h_1⟩ hq1
            have hm1 := (hq1.2.2.1 1 _ _ _ _ 1 _ _ rfl rfl)
            try dsimp only at hk1 hi1 h_1
            clear hq1
            cbv
            by_cases hc1_ : k1 < x3_Chutes.length
            · have hb5 : lt v2 (llen (r_Chute x3_Chutes)) = true := ltL_true_Chute hg ht hi1 hc1_
              have hs1 := stepL_Chute hg ht hi1 hc1_ hm1
              obtain ⟨z1, hz1⟩ := some_of_lt hc1_
              rw [drop_of_some hz1] at h_1
              rw [L_FnBeltKeeps_l1] at h_1
              obtain ⟨z1_Cell, z1_Room, z1_Held⟩ := z1
              try rw [← hg] at h_1
              try rw [← ht] at h_1
              try dsimp only at h_1
              rw [hb5]
              cbv
              refine AGh.nil ?_
              cbv
              refine AStep.mk (nn_L hi1) ?_
              cbv
              refine AGet.mk _ (r_getL_Chute hg ht hi1 hz1) ?_
              cbv
              refine AGh.nil ?_
              cbv
              try rw [hg] at h_1
              try rw [ht] at h_1
              refine ⟨⟨(k1 + 1, (wrap .i64 (add v2 1)), (wrap .i64 (add v1 (llen (r_Item z1_Held))))), hc1_, hs1, h_1⟩, Wk.of [(0, some 0), (1, some 1)] rfl rfl ?_ ?_, meas_L hc1_⟩
              · cbv
                all_goals exact ⟨⟨_, rfl, rfl⟩, ⟨_, rfl, rfl⟩, ⟨_, rfl, rfl⟩, ⟨_, rfl, rfl⟩, ⟨_, rfl, rfl⟩, trivial⟩
              · cbv
                all_goals exact ⟨⟨_, rfl, _, rfl, rfl, rfl, rfl, rfl, rfl, trivial⟩, ⟨_, rfl, _, rfl, rfl, rfl, rfl, rfl, rfl, trivial⟩, trivial⟩
            · have hb5 : lt v2 (llen (r_Chute x3_Chutes)) = false := ltL_false_Chute hg ht hi1 hc1_
              rw [List.drop_of_length_le (Nat.le_of_not_lt hc1_)] at h_1
              rw [L_FnBeltKeeps_l1] at h_1
              try rw [← hg] at h_1
              try rw [← ht] at h_1
              try dsimp only at h_1
              rw [hb5]
              cbv
              refine ⟨v1, Wk.of [(0, some 0), (1, some 1)] rfl rfl ?_ ?_, h_1.symm⟩
              · cbv
                all_goals exact ⟨⟨_, rfl, rfl⟩, ⟨_, rfl, rfl⟩, ⟨_, rfl, rfl⟩, ⟨_, rfl, rfl⟩, trivial⟩
              · cbv
                all_goals exact ⟨⟨_, rfl, _, rfl, rfl, rfl, rfl, rfl, rfl, trivial⟩, ⟨_, rfl, _, rfl, rfl, rfl, rfl, rfl, rfl, trivial⟩, trivial⟩
          · rintro y1 hy1
            replace hy1 := hy1.symm
            subst hy1
            try dsimp only [lr, lrL, lrp, lrpL] at h
            cbv
            obtain ⟨x9, hx9, h⟩ := of_cl h
            try dsimp only at h
            refine ACall.mk _ _ rfl (hF _ _ _ (c_S_IsCentre hg ht hx9)) (.inl rfl) (Nat.le_of_ble_eq_true rfl) ?_
            cbv
            cases hb6 : x9 with
            | true =>
              rw [br_true hb6] at h
              cbv
              try (rw [hb6]; cbv)
              obtain ⟨x10, hx10, h⟩ := of_lP h
              try dsimp only at h
              refine ACall.mk _ _ rfl (hF _ _ _ (c_I_CountBelt hg ht hx10)) (.inl rfl) (Nat.le_of_ble_eq_true rfl) ?_
              cbv
              try (rw [hb6]; cbv)
              try (rw [hb6]; cbv)
              obtain ⟨x11, hx11, h⟩ := of_lP h
              try dsimp only at h
              refine ACall.mk _ _ rfl (hF _ _ _ (c_I_CountWait hg ht hx11)) (.inl rfl) (Nat.le_of_ble_eq_true rfl) ?_
              cbv
              try (rw [hb6]; cbv)
              try (rw [hb6]; cbv)
              try (rw [hb6]; cbv)
              try (rw [hb6]; cbv)
              try (rw [hb6]; cbv)
              try (rw [hb6]; cbv)
              try (rw [hb6]; cbv)
              cases hb7 : (eq (wrap .i64 (add (wrap .i64 (add x10 x11)) y1)) (llen (r_I64 x4))) with
              | true =>
                rw [br_true hb7] at h
                cbv
                obtain ⟨o2, ho2, h⟩ := of_cl h
                try dsimp only at h
                try rw [hg] at ho2
                try rw [ht] at ho2
                refine ABL.mk { p : Nat × Int // p.1 ≤ x4.length ∧ p.2 = ((p.1 : Nat) : Int) ∧ L_FnBeltKeeps_l2 G.real TE.real (Centre.mk x3_Belt x3_Chutes x3_Inlets x3_Plan x3_Now) x4 (List.drop p.1 x4) p.2 = some o2 } (fun ⟨⟨k2, v3⟩, _⟩ => ({ sl := [(5, .c (.p 0 5 0 0)), (6, .c (.r (.s 1 (r_I64 x4)))), (9, .c (.r (.v (.int .i64 v3))))], tab := [(0, some (.foc 5 [] [.r (.s 2 (r_Item x3_Belt)), .r (.s 3 (r_Chute x3_Chutes)), .r (.s 2 (r_Inlet x3_Inlets)), .r (.s 1 (r_I64 x3_Plan)), .r (.v (.int .i64 x3_Now))] []))] } : St)) 1 (fun p => x4.length - p.1.1) ⟨(0, 0), Nat.zero_le _, rfl, ho2⟩ (Unit) (fun _ => ({ sl := [], tab := [] } : St)) 0 (fun y => o2 = LR.out y) ?_ ?_ ?_
                · refine Wk.of [(0, some 1)] rfl rfl ?_ ?_
                  · cbv
                    all_goals exact ⟨⟨_, rfl, rfl⟩, ⟨_, rfl, rfl⟩, ⟨_, rfl, rfl⟩, trivial⟩
                  · cbv
                    all_goals exact ⟨⟨_, rfl, _, rfl, rfl, rfl, rfl, rfl, rfl, trivial⟩, trivial⟩
                · rintro ⟨⟨k2, v3⟩, hk2, hi2, h_2⟩ hq2
                  have hm2 := (hq2.1 6 _ _ rfl)
                  try dsimp only at hk2 hi2 h_2
                  clear hq2
                  cbv
                  by_cases hc2_ : k2 < x4.length
                  · have hb8 : lt v3 (llen (r_I64 x4)) = true := ltL_true_I64 hg ht hi2 hc2_
                    have hs2 := stepL_I64 hg ht hi2 hc2_ hm2
                    obtain ⟨z2, hz2⟩ := some_of_lt hc2_
                    rw [drop_of_some hz2] at h_2
                    rw [L_FnBeltKeeps_l2] at h_2
                    try rw [← hg] at h_2
                    try rw [← ht] at h_2
                    try dsimp only at h_2
                    rw [hb8]
                    cbv
                    refine AStep.mk (nn_L hi2) ?_
                    cbv
                    refine AGet.mk _ (r_getL_I64 hg ht hi2 hz2) ?_
                    cbv
                    obtain ⟨x12, hx12, h_2⟩ := of_cl h_2
                    obtain ⟨x12_1, x12_2⟩ := x12
                    try dsimp only at h_2
                    refine ACall.mk _ _ rfl (hF _ _ _ (c_I_WhereIs hg ht hx12)) (.inl rfl) (Nat.le_of_ble_eq_true rfl) ?_
                    cbv
                    cases hb9 : (eq x12_1 0) with
                    | true =>
                      rw [br_true hb9] at h_2
                      cbv
                      try (rw [hb9]; cbv)
                      try (rw [hb9]; cbv)
                      try (rw [hb9]; cbv)
                      try (rw [hb9]; cbv)
                      obtain rfl := Option.some.inj h_2
                      try dsimp only [lr, lrL, lrp, lrpL] at h
                      obtain rfl := Option.some.inj h
                      exact ARet.mk trivial hX.symm
                    | false =>
                      rw [br_false hb9] at h_2
                      cbv
                      try (rw [hb9]; cbv)
                      try (rw [hb9]; cbv)
                      cases hb10 : (lt 0 v3) with
                      | true =>
                        rw [br_true hb10] at h_2
                        cbv
                        try (rw [hb10]; cbv)
                        try (rw [hb10]; cbv)
                        try (rw [hb10]; cbv)
                        obtain ⟨hc1, h_2⟩ := of_gd h_2
                        refine AStep.mk hc1 ?_
                        cbv
                        obtain ⟨x13, hx13, h_2⟩ := of_gt h_2
                        try dsimp only at h_2
                        refine AGet.mk _ (r_get_I64 hg ht hx13) ?_
                        cbv
                        try (rw [hb10]; cbv)
                        try (rw [hb10]; cbv)
                        try (rw [hb10]; cbv)
                        try (rw [hb10]; cbv)
                        refine AStep.mk (nn_L hi2) ?_
                        cbv
                        refine AGet.mk _ (r_getL_I64 hg ht hi2 hz2) ?_
                        cbv
                        try (rw [hb10]; cbv)
                        try (rw [hb10]; cbv)
                        try (rw [hb9]; cbv)
                        try (rw [hb10]; cbv)
                        try (rw [hb9]; cbv)
                        cases hb11 : (le z2 x13) with
                        | true =>
                          rw [br_true hb11] at h_2
                          cbv
                          obtain rfl := Option.some.inj h_2
                          try dsimp only [lr, lrL, lrp, lrpL] at h
                          obtain rfl := Option.some.inj h
                          exact ARet.mk trivial hX.symm
                        | false =>
                          rw [br_false hb11] at h_2
                          cbv
                          try rw [hg] at h_2
                          try rw [ht] at h_2
                          refine ⟨⟨(k2 + 1, (wrap .i64 (add v3 1))), hc2_, hs2, h_2⟩, Wk.of [(0, some 0)] rfl rfl ?_ ?_, meas_L hc2_⟩
                          · cbv
                            all_goals exact ⟨⟨_, rfl, rfl⟩, ⟨_, rfl, rfl⟩, ⟨_, rfl, rfl⟩, trivial⟩
                          · cbv
                            all_goals exact ⟨⟨_, rfl, _, rfl, rfl, rfl, rfl, rfl, rfl, trivial⟩, trivial⟩
                      | false =>
                        rw [br_false hb10] at h_2
                        cbv
                        try (rw [hb10]; cbv)
                        try (rw [hb10]; cbv)
                        try (rw [hb10]; cbv)
                        try (rw [hb10]; cbv)
                        try (rw [hb10]; cbv)
                        try (rw [hb10]; cbv)
                        try (rw [hb10]; cbv)
                        try (rw [hb10]; cbv)
                        try (rw [hb10]; cbv)
                        try (rw [hb9]; cbv)
                        try (rw [hb10]; cbv)
                        try (rw [hb9]; cbv)
                        try rw [hg] at h_2
                        try rw [ht] at h_2
                        refine ⟨⟨(k2 + 1, (wrap .i64 (add v3 1))), hc2_, hs2, h_2⟩, Wk.of [(0, some 0)] rfl rfl ?_ ?_, meas_L hc2_⟩
                        · cbv
                          all_goals exact ⟨⟨_, rfl, rfl⟩, ⟨_, rfl, rfl⟩, ⟨_, rfl, rfl⟩, trivial⟩
                        · cbv
                          all_goals exact ⟨⟨_, rfl, _, rfl, rfl, rfl, rfl, rfl, rfl, trivial⟩, trivial⟩
                  · have hb8 : lt v3 (llen (r_I64 x4)) = false := ltL_false_I64 hg ht hi2 hc2_
                    rw [List.drop_of_length_le (Nat.le_of_not_lt hc2_)] at h_2
                    rw [L_FnBeltKeeps_l2] at h_2
                    try rw [← hg] at h_2
                    try rw [← ht] at h_2
                    try dsimp only at h_2
                    rw [hb8]
                    cbv
                    refine ⟨(), Wk.of [] rfl rfl ?_ ?_, (Option.some.inj h_2).symm⟩
                    · cbv
                      all_goals exact trivial
                    · cbv
                      all_goals exact trivial
                · rintro _ hy2
                  replace hy2 := hy2.symm
                  subst hy2
                  try dsimp only [lr, lrL, lrp, lrpL] at h
                  cbv
                  obtain rfl := Option.some.inj h
                  exact ARet.mk trivial hX.symm
              | false =>
                rw [br_false hb7] at h
                cbv
                obtain rfl := Option.some.inj h
                exact ARet.mk trivial hX.symm
            | false =>
              rw [br_false hb6] at h
              cbv
              try (rw [hb6]; cbv)
              try (rw [hb6]; cbv)
              try (rw [hb6]; cbv)
              try (rw [hb6]; cbv)
              try (rw [hb6]; cbv)
              try (rw [hb6]; cbv)
              try (rw [hb6]; cbv)
              try (rw [hb6]; cbv)
              try (rw [hb6]; cbv)
              try (rw [hb6]; cbv)
              obtain ⟨o3, ho3, h⟩ := of_cl h
              try dsimp only at h
              try rw [hg] at ho3
              try rw [ht] at ho3
              refine ABL.mk { p : Nat × Int // p.1 ≤ x4.length ∧ p.2 = ((p.1 : Nat) : Int) ∧ L_FnBeltKeeps_l3 G.real TE.real (Centre.mk x3_Belt x3_Chutes x3_Inlets x3_Plan x3_Now) x4 (List.drop p.1 x4) p.2 = some o3 } (fun ⟨⟨k3, v4⟩, _⟩ => ({ sl := [(5, .c (.p 0 5 0 0)), (6, .c (.r (.s 1 (r_I64 x4)))), (9, .c (.r (.v (.int .i64 v4))))], tab := [(0, some (.foc 5 [] [.r (.s 2 (r_Item x3_Belt)), .r (.s 3 (r_Chute x3_Chutes)), .r (.s 2 (r_Inlet x3_Inlets)), .r (.s 1 (r_I64 x3_Plan)), .r (.v (.int .i64 x3_Now))] []))] } : St)) 1 (fun p => x4.length - p.1.1) ⟨(0, 0), Nat.zero_le _, rfl, ho3⟩ (Unit) (fun _ => ({ sl := [], tab := [] } : St)) 0 (fun y => o3 = LR.out y) ?_ ?_ ?_
              · refine Wk.of [(0, some 1)] rfl rfl ?_ ?_
                · cbv
                  all_goals exact ⟨⟨_, rfl, rfl⟩, ⟨_, rfl, rfl⟩, ⟨_, rfl, rfl⟩, trivial⟩
                · cbv
                  all_goals exact ⟨⟨_, rfl, _, rfl, rfl, rfl, rfl, rfl, rfl, trivial⟩, trivial⟩
              · rintro ⟨⟨k3, v4⟩, hk3, hi3, h_3⟩ hq3
                have hm3 := (hq3.1 6 _ _ rfl)
                try dsimp only at hk3 hi3 h_3
                clear hq3
                cbv
                by_cases hc3_ : k3 < x4.length
                · have hb12 : lt v4 (llen (r_I64 x4)) = true := ltL_true_I64 hg ht hi3 hc3_
                  have hs3 := stepL_I64 hg ht hi3 hc3_ hm3
                  obtain ⟨z3, hz3⟩ := some_of_lt hc3_
                  rw [drop_of_some hz3] at h_3
                  rw [L_FnBeltKeeps_l3] at h_3
                  try rw [← hg] at h_3
                  try rw [← ht] at h_3
                  try dsimp only at h_3
                  rw [hb12]
                  cbv
                  refine AStep.mk (nn_L hi3) ?_
                  cbv
                  refine AGet.mk _ (r_getL_I64 hg ht hi3 hz3) ?_
                  cbv
                  obtain ⟨x14, hx14, h_3⟩ := of_cl h_3
                  obtain ⟨x14_1, x14_2⟩ := x14
                  try dsimp only at h_3
                  refine ACall.mk _ _ rfl (hF _ _ _ (c_I_WhereIs hg ht hx14)) (.inl rfl) (Nat.le_of_ble_eq_true rfl) ?_
                  cbv
                  cases hb13 : (eq x14_1 0) with
                  | true =>
                    rw [br_true hb13] at h_3
                    cbv
                    try (rw [hb13]; cbv)
                    try (rw [hb13]; cbv)
                    try (rw [hb13]; cbv)
                    try (rw [hb13]; cbv)
                    obtain rfl := Option.some.inj h_3
                    try dsimp only [lr, lrL, lrp, lrpL] at h
                    obtain rfl := Option.some.inj h
                    exact ARet.mk trivial hX.symm
                  | false =>
                    rw [br_false hb13] at h_3
                    cbv
                    try (rw [hb13]; cbv)
                    try (rw [hb13]; cbv)
                    cases hb14 : (lt 0 v4) with
                    | true =>
                      rw [br_true hb14] at h_3
                      cbv
                      try (rw [hb14]; cbv)
                      try (rw [hb14]; cbv)
                      try (rw [hb14]; cbv)
                      obtain ⟨hc2, h_3⟩ := of_gd h_3
                      refine AStep.mk hc2 ?_
                      cbv
                      obtain ⟨x15, hx15, h_3⟩ := of_gt h_3
                      try dsimp only at h_3
                      refine AGet.mk _ (r_get_I64 hg ht hx15) ?_
                      cbv
                      try (rw [hb14]; cbv)
                      try (rw [hb14]; cbv)
                      try (rw [hb14]; cbv)
                      try (rw [hb14]; cbv)
                      refine AStep.mk (nn_L hi3) ?_
                      cbv
                      refine AGet.mk _ (r_getL_I64 hg ht hi3 hz3) ?_
                      cbv
                      try (rw [hb14]; cbv)
                      try (rw [hb14]; cbv)
                      try (rw [hb13]; cbv)
                      try (rw [hb14]; cbv)
                      try (rw [hb13]; cbv)
                      cases hb15 : (le z3 x15) with
                      | true =>
                        rw [br_true hb15] at h_3
                        cbv
                        obtain rfl := Option.some.inj h_3
                        try dsimp only [lr, lrL, lrp, lrpL] at h
                        obtain rfl := Option.some.inj h
                        exact ARet.mk trivial hX.symm
                      | false =>
                        rw [br_false hb15] at h_3
                        cbv
                        try rw [hg] at h_3
                        try rw [ht] at h_3
                        refine ⟨⟨(k3 + 1, (wrap .i64 (add v4 1))), hc3_, hs3, h_3⟩, Wk.of [(0, some 0)] rfl rfl ?_ ?_, meas_L hc3_⟩
                        · cbv
                          all_goals exact ⟨⟨_, rfl, rfl⟩, ⟨_, rfl, rfl⟩, ⟨_, rfl, rfl⟩, trivial⟩
                        · cbv
                          all_goals exact ⟨⟨_, rfl, _, rfl, rfl, rfl, rfl, rfl, rfl, trivial⟩, trivial⟩
                    | false =>
                      rw [br_false hb14] at h_3
                      cbv
                      try (rw [hb14]; cbv)
                      try (rw [hb14]; cbv)
                      try (rw [hb14]; cbv)
                      try (rw [hb14]; cbv)
                      try (rw [hb14]; cbv)
                      try (rw [hb14]; cbv)
                      try (rw [hb14]; cbv)
                      try (rw [hb14]; cbv)
                      try (rw [hb14]; cbv)
                      try (rw [hb13]; cbv)
                      try (rw [hb14]; cbv)
                      try (rw [hb13]; cbv)
                      try rw [hg] at h_3
                      try rw [ht] at h_3
                      refine ⟨⟨(k3 + 1, (wrap .i64 (add v4 1))), hc3_, hs3, h_3⟩, Wk.of [(0, some 0)] rfl rfl ?_ ?_, meas_L hc3_⟩
                      · cbv
                        all_goals exact ⟨⟨_, rfl, rfl⟩, ⟨_, rfl, rfl⟩, ⟨_, rfl, rfl⟩, trivial⟩
                      · cbv
                        all_goals exact ⟨⟨_, rfl, _, rfl, rfl, rfl, rfl, rfl, rfl, trivial⟩, trivial⟩
                · have hb12 : lt v4 (llen (r_I64 x4)) = false := ltL_false_I64 hg ht hi3 hc3_
                  rw [List.drop_of_length_le (Nat.le_of_not_lt hc3_)] at h_3
                  rw [L_FnBeltKeeps_l3] at h_3
                  try rw [← hg] at h_3
                  try rw [← ht] at h_3
                  try dsimp only at h_3
                  rw [hb12]
                  cbv
                  refine ⟨(), Wk.of [] rfl rfl ?_ ?_, (Option.some.inj h_3).symm⟩
                  · cbv
                    all_goals exact trivial
                  · cbv
                    all_goals exact trivial
              · rintro _ hy3
                replace hy3 := hy3.symm
                subst hy3
                try dsimp only [lr, lrL, lrp, lrpL] at h
                cbv
                obtain rfl := Option.some.inj h
                exact ARet.mk trivial hX.symm
        | false =>
          rw [br_false hb4] at h
          cbv
          try (rw [hb2]; cbv)
          obtain rfl := Option.some.inj h
          exact ARet.mk trivial hX.symm
      | false =>
        rw [br_false hb3] at h
        cbv
        cases hb16 : x8 with
        | true =>
          rw [br_true hb16] at h
          cbv
          try (rw [hb2]; cbv)
          obtain rfl := Option.some.inj h
          exact ARet.mk trivial hX.symm
        | false =>
          rw [br_false hb16] at h
          cbv
          try (rw [hb2]; cbv)
          obtain ⟨o4, ho4, h⟩ := of_lP h
          try dsimp only at h
          try rw [hg] at ho4
          try rw [ht] at ho4
          refine ABL.mk { p : Nat × Int × Int // p.1 ≤ x3_Chutes.length ∧ p.2.1 = ((p.1 : Nat) : Int) ∧ L_FnBeltKeeps_l4 G.real TE.real (List.drop p.1 x3_Chutes) p.2.2 = o4 } (fun ⟨⟨k4, v6, v5⟩, _⟩ => ({ sl := [(3, .c (.p 0 5 0 0)), (5, .c (.p 1 5 0 0)), (6, .c (.r (.s 1 (r_I64 x4)))), (7, .c (.r (.v (.int .i64 v5)))), (8, .c (.r (.v (.int .i64 v6))))], tab := [(0, some (.foc 5 [] [.r (.s 2 (r_Item x2_1_Belt)), .r (.s 3 (r_Chute x2_1_Chutes)), .r (.s 2 (r_Inlet x2_1_Inlets)), .r (.s 1 (r_I64 x2_1_Plan)), .r (.v (.int .i64 x2_1_Now))] [])), (1, some (.foc 5 [] [.r (.s 2 (r_Item x3_Belt)), .r (.s 3 (r_Chute x3_Chutes)), .r (.s 2 (r_Inlet x3_Inlets)), .r (.s 1 (r_I64 x3_Plan)), .r (.v (.int .i64 x3_Now))] []))] } : St)) 2 (fun p => x3_Chutes.length - p.1.1) ⟨(0, 0, 0), Nat.zero_le _, rfl, ho4⟩ (Int) (fun y4 => ({ sl := [(3, .c (.p 0 5 0 0)), (5, .c (.p 1 5 0 0)), (6, .c (.r (.s 1 (r_I64 x4)))), (7, .c (.r (.v (.int .i64 y4))))], tab := [(0, some (.foc 5 [] [.r (.s 2 (r_Item x2_1_Belt)), .r (.s 3 (r_Chute x2_1_Chutes)), .r (.s 2 (r_Inlet x2_1_Inlets)), .r (.s 1 (r_I64 x2_1_Plan)), .r (.v (.int .i64 x2_1_Now))] [])), (1, some (.foc 5 [] [.r (.s 2 (r_Item x3_Belt)), .r (.s 3 (r_Chute x3_Chutes)), .r (.s 2 (r_Inlet x3_Inlets)), .r (.s 1 (r_I64 x3_Plan)), .r (.v (.int .i64 x3_Now))] []))] } : St)) 2 (fun y => o4 = y) ?_ ?_ ?_
          · refine Wk.of [(0, some 128), (1, some 224)] rfl rfl ?_ ?_
            · cbv
              all_goals exact ⟨⟨_, rfl, rfl⟩, ⟨_, rfl, rfl⟩, ⟨_, rfl, rfl⟩, ⟨_, rfl, rfl⟩, ⟨_, rfl, rfl⟩, trivial⟩
            · cbv
              all_goals exact ⟨⟨_, rfl, _, rfl, rfl, rfl, rfl, rfl, rfl, trivial⟩, ⟨_, rfl, _, rfl, rfl, rfl, rfl, rfl, rfl, trivial⟩, trivial⟩
          · rintro ⟨⟨k4, v6, v5⟩, hk4, hi4, h_4⟩ hq4
            have hm4 := (hq4.2.2.1 1 _ _ _ _ 1 _ _ rfl rfl)
            try dsimp only at hk4 hi4 h_4
            clear hq4
            cbv
            by_cases hc4_ : k4 < x3_Chutes.length
            · have hb17 : lt v6 (llen (r_Chute x3_Chutes)) = true := ltL_true_Chute hg ht hi4 hc4_
              have hs4 := stepL_Chute hg ht hi4 hc4_ hm4
              obtain ⟨z4, hz4⟩ := some_of_lt hc4_
              rw [drop_of_some hz4] at h_4
              rw [L_FnBeltKeeps_l4] at h_4
              obtain ⟨z4_Cell, z4_Room, z4_Held⟩ := z4
              try rw [← hg] at h_4
              try rw [← ht] at h_4
              try dsimp only at h_4
              rw [hb17]
              cbv
              refine AGh.nil ?_
              cbv
              refine AStep.mk (nn_L hi4) ?_
              cbv
              refine AGet.mk _ (r_getL_Chute hg ht hi4 hz4) ?_
              cbv
              refine AGh.nil ?_
              cbv
              try rw [hg] at h_4
              try rw [ht] at h_4
              refine ⟨⟨(k4 + 1, (wrap .i64 (add v6 1)), (wrap .i64 (add v5 (llen (r_Item z4_Held))))), hc4_, hs4, h_4⟩, Wk.of [(0, some 0), (1, some 1)] rfl rfl ?_ ?_, meas_L hc4_⟩
              · cbv
                all_goals exact ⟨⟨_, rfl, rfl⟩, ⟨_, rfl, rfl⟩, ⟨_, rfl, rfl⟩, ⟨_, rfl, rfl⟩, ⟨_, rfl, rfl⟩, trivial⟩
              · cbv
                all_goals exact ⟨⟨_, rfl, _, rfl, rfl, rfl, rfl, rfl, rfl, trivial⟩, ⟨_, rfl, _, rfl, rfl, rfl, rfl, rfl, rfl, trivial⟩, trivial⟩
            · have hb17 : lt v6 (llen (r_Chute x3_Chutes)) = false := ltL_false_Chute hg ht hi4 hc4_
              rw [List.drop_of_length_le (Nat.le_of_not_lt hc4_)] at h_4
              rw [L_FnBeltKeeps_l4] at h_4
              try rw [← hg] at h_4
              try rw [← ht] at h_4
              try dsimp only at h_4
              rw [hb17]
              cbv
              refine ⟨v5, Wk.of [(0, some 0), (1, some 1)] rfl rfl ?_ ?_, h_4.symm⟩
              · cbv
                all_goals exact ⟨⟨_, rfl, rfl⟩, ⟨_, rfl, rfl⟩, ⟨_, rfl, rfl⟩, ⟨_, rfl, rfl⟩, trivial⟩
              · cbv
                all_goals exact ⟨⟨_, rfl, _, rfl, rfl, rfl, rfl, rfl, rfl, trivial⟩, ⟨_, rfl, _, rfl, rfl, rfl, rfl, rfl, rfl, trivial⟩, trivial⟩
          · rintro y4 hy4
            replace hy4 := hy4.symm
            subst hy4
            try dsimp only [lr, lrL, lrp, lrpL] at h
            cbv
            obtain ⟨x16, hx16, h⟩ := of_cl h
            try dsimp only at h
            refine ACall.mk _ _ rfl (hF _ _ _ (c_S_IsCentre hg ht hx16)) (.inl rfl) (Nat.le_of_ble_eq_true rfl) ?_
            cbv
            cases hb18 : x16 with
            | true =>
              rw [br_true hb18] at h
              cbv
              try (rw [hb18]; cbv)
              obtain ⟨x17, hx17, h⟩ := of_lP h
              try dsimp only at h
              refine ACall.mk _ _ rfl (hF _ _ _ (c_I_CountBelt hg ht hx17)) (.inl rfl) (Nat.le_of_ble_eq_true rfl) ?_
              cbv
              try (rw [hb18]; cbv)
              try (rw [hb18]; cbv)
              obtain ⟨x18, hx18, h⟩ := of_lP h
              try dsimp only at h
              refine ACall.mk _ _ rfl (hF _ _ _ (c_I_CountWait hg ht hx18)) (.inl rfl) (Nat.le_of_ble_eq_true rfl) ?_
              cbv
              try (rw [hb18]; cbv)
              try (rw [hb18]; cbv)
              try (rw [hb18]; cbv)
              try (rw [hb18]; cbv)
              try (rw [hb18]; cbv)
              try (rw [hb18]; cbv)
              try (rw [hb18]; cbv)
              cases hb19 : (eq (wrap .i64 (add (wrap .i64 (add x17 x18)) y4)) (llen (r_I64 x4))) with
              | true =>
                rw [br_true hb19] at h
                cbv
                obtain ⟨o5, ho5, h⟩ := of_cl h
                try dsimp only at h
                try rw [hg] at ho5
                try rw [ht] at ho5
                refine ABL.mk { p : Nat × Int // p.1 ≤ x4.length ∧ p.2 = ((p.1 : Nat) : Int) ∧ L_FnBeltKeeps_l5 G.real TE.real (Centre.mk x3_Belt x3_Chutes x3_Inlets x3_Plan x3_Now) x4 (List.drop p.1 x4) p.2 = some o5 } (fun ⟨⟨k5, v7⟩, _⟩ => ({ sl := [(5, .c (.p 0 5 0 0)), (6, .c (.r (.s 1 (r_I64 x4)))), (9, .c (.r (.v (.int .i64 v7))))], tab := [(0, some (.foc 5 [] [.r (.s 2 (r_Item x3_Belt)), .r (.s 3 (r_Chute x3_Chutes)), .r (.s 2 (r_Inlet x3_Inlets)), .r (.s 1 (r_I64 x3_Plan)), .r (.v (.int .i64 x3_Now))] []))] } : St)) 1 (fun p => x4.length - p.1.1) ⟨(0, 0), Nat.zero_le _, rfl, ho5⟩ (Unit) (fun _ => ({ sl := [], tab := [] } : St)) 0 (fun y => o5 = LR.out y) ?_ ?_ ?_
                · refine Wk.of [(0, some 1)] rfl rfl ?_ ?_
                  · cbv
                    all_goals exact ⟨⟨_, rfl, rfl⟩, ⟨_, rfl, rfl⟩, ⟨_, rfl, rfl⟩, trivial⟩
                  · cbv
                    all_goals exact ⟨⟨_, rfl, _, rfl, rfl, rfl, rfl, rfl, rfl, trivial⟩, trivial⟩
                · rintro ⟨⟨k5, v7⟩, hk5, hi5, h_5⟩ hq5
                  have hm5 := (hq5.1 6 _ _ rfl)
                  try dsimp only at hk5 hi5 h_5
                  clear hq5
                  cbv
                  by_cases hc5_ : k5 < x4.length
                  · have hb20 : lt v7 (llen (r_I64 x4)) = true := ltL_true_I64 hg ht hi5 hc5_
                    have hs5 := stepL_I64 hg ht hi5 hc5_ hm5
                    obtain ⟨z5, hz5⟩ := some_of_lt hc5_
                    rw [drop_of_some hz5] at h_5
                    rw [L_FnBeltKeeps_l5] at h_5
                    try rw [← hg] at h_5
                    try rw [← ht] at h_5
                    try dsimp only at h_5
                    rw [hb20]
                    cbv
                    refine AStep.mk (nn_L hi5) ?_
                    cbv
                    refine AGet.mk _ (r_getL_I64 hg ht hi5 hz5) ?_
                    cbv
                    obtain ⟨x19, hx19, h_5⟩ := of_cl h_5
                    obtain ⟨x19_1, x19_2⟩ := x19
                    try dsimp only at h_5
                    refine ACall.mk _ _ rfl (hF _ _ _ (c_I_WhereIs hg ht hx19)) (.inl rfl) (Nat.le_of_ble_eq_true rfl) ?_
                    cbv
                    cases hb21 : (eq x19_1 0) with
                    | true =>
                      rw [br_true hb21] at h_5
                      cbv
                      try (rw [hb21]; cbv)
                      try (rw [hb21]; cbv)
                      try (rw [hb21]; cbv)
                      try (rw [hb21]; cbv)
                      obtain rfl := Option.some.inj h_5
                      try dsimp only [lr, lrL, lrp, lrpL] at h
                      obtain rfl := Option.some.inj h
                      exact ARet.mk trivial hX.symm
                    | false =>
                      rw [br_false hb21] at h_5
                      cbv
                      try (rw [hb21]; cbv)
                      try (rw [hb21]; cbv)
                      cases hb22 : (lt 0 v7) with
                      | true =>
                        rw [br_true hb22] at h_5
                        cbv
                        try (rw [hb22]; cbv)
                        try (rw [hb22]; cbv)
                        try (rw [hb22]; cbv)
                        obtain ⟨hc3, h_5⟩ := of_gd h_5
                        refine AStep.mk hc3 ?_
                        cbv
                        obtain ⟨x20, hx20, h_5⟩ := of_gt h_5
                        try dsimp only at h_5
                        refine AGet.mk _ (r_get_I64 hg ht hx20) ?_
                        cbv
                        try (rw [hb22]; cbv)
                        try (rw [hb22]; cbv)
                        try (rw [hb22]; cbv)
                        try (rw [hb22]; cbv)
                        refine AStep.mk (nn_L hi5) ?_
                        cbv
                        refine AGet.mk _ (r_getL_I64 hg ht hi5 hz5) ?_
                        cbv
                        try (rw [hb22]; cbv)
                        try (rw [hb22]; cbv)
                        try (rw [hb21]; cbv)
                        try (rw [hb22]; cbv)
                        try (rw [hb21]; cbv)
                        cases hb23 : (le z5 x20) with
                        | true =>
                          rw [br_true hb23] at h_5
                          cbv
                          obtain rfl := Option.some.inj h_5
                          try dsimp only [lr, lrL, lrp, lrpL] at h
                          obtain rfl := Option.some.inj h
                          exact ARet.mk trivial hX.symm
                        | false =>
                          rw [br_false hb23] at h_5
                          cbv
                          try rw [hg] at h_5
                          try rw [ht] at h_5
                          refine ⟨⟨(k5 + 1, (wrap .i64 (add v7 1))), hc5_, hs5, h_5⟩, Wk.of [(0, some 0)] rfl rfl ?_ ?_, meas_L hc5_⟩
                          · cbv
                            all_goals exact ⟨⟨_, rfl, rfl⟩, ⟨_, rfl, rfl⟩, ⟨_, rfl, rfl⟩, trivial⟩
                          · cbv
                            all_goals exact ⟨⟨_, rfl, _, rfl, rfl, rfl, rfl, rfl, rfl, trivial⟩, trivial⟩
                      | false =>
                        rw [br_false hb22] at h_5
                        cbv
                        try (rw [hb22]; cbv)
                        try (rw [hb22]; cbv)
                        try (rw [hb22]; cbv)
                        try (rw [hb22]; cbv)
                        try (rw [hb22]; cbv)
                        try (rw [hb22]; cbv)
                        try (rw [hb22]; cbv)
                        try (rw [hb22]; cbv)
                        try (rw [hb22]; cbv)
                        try (rw [hb21]; cbv)
                        try (rw [hb22]; cbv)
                        try (rw [hb21]; cbv)
                        try rw [hg] at h_5
                        try rw [ht] at h_5
                        refine ⟨⟨(k5 + 1, (wrap .i64 (add v7 1))), hc5_, hs5, h_5⟩, Wk.of [(0, some 0)] rfl rfl ?_ ?_, meas_L hc5_⟩
                        · cbv
                          all_goals exact ⟨⟨_, rfl, rfl⟩, ⟨_, rfl, rfl⟩, ⟨_, rfl, rfl⟩, trivial⟩
                        · cbv
                          all_goals exact ⟨⟨_, rfl, _, rfl, rfl, rfl, rfl, rfl, rfl, trivial⟩, trivial⟩
                  · have hb20 : lt v7 (llen (r_I64 x4)) = false := ltL_false_I64 hg ht hi5 hc5_
                    rw [List.drop_of_length_le (Nat.le_of_not_lt hc5_)] at h_5
                    rw [L_FnBeltKeeps_l5] at h_5
                    try rw [← hg] at h_5
                    try rw [← ht] at h_5
                    try dsimp only at h_5
                    rw [hb20]
                    cbv
                    refine ⟨(), Wk.of [] rfl rfl ?_ ?_, (Option.some.inj h_5).symm⟩
                    · cbv
                      all_goals exact trivial
                    · cbv
                      all_goals exact trivial
                · rintro _ hy5
                  replace hy5 := hy5.symm
                  subst hy5
                  try dsimp only [lr, lrL, lrp, lrpL] at h
                  cbv
                  obtain rfl := Option.some.inj h
                  exact ARet.mk trivial hX.symm
              | false =>
                rw [br_false hb19] at h
                cbv
                obtain rfl := Option.some.inj h
                exact ARet.mk trivial hX.symm
            | false =>
              rw [br_false hb18] at h
              cbv
              try (rw [hb18]; cbv)
              try (rw [hb18]; cbv)
              try (rw [hb18]; cbv)
              try (rw [hb18]; cbv)
              try (rw [hb18]; cbv)
              try (rw [hb18]; cbv)
              try (rw [hb18]; cbv)
              try (rw [hb18]; cbv)
              try (rw [hb18]; cbv)
              try (rw [hb18]; cbv)
              obtain ⟨o6, ho6, h⟩ := of_cl h
              try dsimp only at h
              try rw [hg] at ho6
              try rw [ht] at ho6
              refine ABL.mk { p : Nat × Int // p.1 ≤ x4.length ∧ p.2 = ((p.1 : Nat) : Int) ∧ L_FnBeltKeeps_l6 G.real TE.real (Centre.mk x3_Belt x3_Chutes x3_Inlets x3_Plan x3_Now) x4 (List.drop p.1 x4) p.2 = some o6 } (fun ⟨⟨k6, v8⟩, _⟩ => ({ sl := [(5, .c (.p 0 5 0 0)), (6, .c (.r (.s 1 (r_I64 x4)))), (9, .c (.r (.v (.int .i64 v8))))], tab := [(0, some (.foc 5 [] [.r (.s 2 (r_Item x3_Belt)), .r (.s 3 (r_Chute x3_Chutes)), .r (.s 2 (r_Inlet x3_Inlets)), .r (.s 1 (r_I64 x3_Plan)), .r (.v (.int .i64 x3_Now))] []))] } : St)) 1 (fun p => x4.length - p.1.1) ⟨(0, 0), Nat.zero_le _, rfl, ho6⟩ (Unit) (fun _ => ({ sl := [], tab := [] } : St)) 0 (fun y => o6 = LR.out y) ?_ ?_ ?_
              · refine Wk.of [(0, some 1)] rfl rfl ?_ ?_
                · cbv
                  all_goals exact ⟨⟨_, rfl, rfl⟩, ⟨_, rfl, rfl⟩, ⟨_, rfl, rfl⟩, trivial⟩
                · cbv
                  all_goals exact ⟨⟨_, rfl, _, rfl, rfl, rfl, rfl, rfl, rfl, trivial⟩, trivial⟩
              · rintro ⟨⟨k6, v8⟩, hk6, hi6, h_6⟩ hq6
                have hm6 := (hq6.1 6 _ _ rfl)
                try dsimp only at hk6 hi6 h_6
                clear hq6
                cbv
                by_cases hc6_ : k6 < x4.length
                · have hb24 : lt v8 (llen (r_I64 x4)) = true := ltL_true_I64 hg ht hi6 hc6_
                  have hs6 := stepL_I64 hg ht hi6 hc6_ hm6
                  obtain ⟨z6, hz6⟩ := some_of_lt hc6_
                  rw [drop_of_some hz6] at h_6
                  rw [L_FnBeltKeeps_l6] at h_6
                  try rw [← hg] at h_6
                  try rw [← ht] at h_6
                  try dsimp only at h_6
                  rw [hb24]
                  cbv
                  refine AStep.mk (nn_L hi6) ?_
                  cbv
                  refine AGet.mk _ (r_getL_I64 hg ht hi6 hz6) ?_
                  cbv
                  obtain ⟨x21, hx21, h_6⟩ := of_cl h_6
                  obtain ⟨x21_1, x21_2⟩ := x21
                  try dsimp only at h_6
                  refine ACall.mk _ _ rfl (hF _ _ _ (c_I_WhereIs hg ht hx21)) (.inl rfl) (Nat.le_of_ble_eq_true rfl) ?_
                  cbv
                  cases hb25 : (eq x21_1 0) with
                  | true =>
                    rw [br_true hb25] at h_6
                    cbv
                    try (rw [hb25]; cbv)
                    try (rw [hb25]; cbv)
                    try (rw [hb25]; cbv)
                    try (rw [hb25]; cbv)
                    obtain rfl := Option.some.inj h_6
                    try dsimp only [lr, lrL, lrp, lrpL] at h
                    obtain rfl := Option.some.inj h
                    exact ARet.mk trivial hX.symm
                  | false =>
                    rw [br_false hb25] at h_6
                    cbv
                    try (rw [hb25]; cbv)
                    try (rw [hb25]; cbv)
                    cases hb26 : (lt 0 v8) with
                    | true =>
                      rw [br_true hb26] at h_6
                      cbv
                      try (rw [hb26]; cbv)
                      try (rw [hb26]; cbv)
                      try (rw [hb26]; cbv)
                      obtain ⟨hc4, h_6⟩ := of_gd h_6
                      refine AStep.mk hc4 ?_
                      cbv
                      obtain ⟨x22, hx22, h_6⟩ := of_gt h_6
                      try dsimp only at h_6
                      refine AGet.mk _ (r_get_I64 hg ht hx22) ?_
                      cbv
                      try (rw [hb26]; cbv)
                      try (rw [hb26]; cbv)
                      try (rw [hb26]; cbv)
                      try (rw [hb26]; cbv)
                      refine AStep.mk (nn_L hi6) ?_
                      cbv
                      refine AGet.mk _ (r_getL_I64 hg ht hi6 hz6) ?_
                      cbv
                      try (rw [hb26]; cbv)
                      try (rw [hb26]; cbv)
                      try (rw [hb25]; cbv)
                      try (rw [hb26]; cbv)
                      try (rw [hb25]; cbv)
                      cases hb27 : (le z6 x22) with
                      | true =>
                        rw [br_true hb27] at h_6
                        cbv
                        obtain rfl := Option.some.inj h_6
                        try dsimp only [lr, lrL, lrp, lrpL] at h
                        obtain rfl := Option.some.inj h
                        exact ARet.mk trivial hX.symm
                      | false =>
                        rw [br_false hb27] at h_6
                        cbv
                        try rw [hg] at h_6
                        try rw [ht] at h_6
                        refine ⟨⟨(k6 + 1, (wrap .i64 (add v8 1))), hc6_, hs6, h_6⟩, Wk.of [(0, some 0)] rfl rfl ?_ ?_, meas_L hc6_⟩
                        · cbv
                          all_goals exact ⟨⟨_, rfl, rfl⟩, ⟨_, rfl, rfl⟩, ⟨_, rfl, rfl⟩, trivial⟩
                        · cbv
                          all_goals exact ⟨⟨_, rfl, _, rfl, rfl, rfl, rfl, rfl, rfl, trivial⟩, trivial⟩
                    | false =>
                      rw [br_false hb26] at h_6
                      cbv
                      try (rw [hb26]; cbv)
                      try (rw [hb26]; cbv)
                      try (rw [hb26]; cbv)
                      try (rw [hb26]; cbv)
                      try (rw [hb26]; cbv)
                      try (rw [hb26]; cbv)
                      try (rw [hb26]; cbv)
                      try (rw [hb26]; cbv)
                      try (rw [hb26]; cbv)
                      try (rw [hb25]; cbv)
                      try (rw [hb26]; cbv)
                      try (rw [hb25]; cbv)
                      try rw [hg] at h_6
                      try rw [ht] at h_6
                      refine ⟨⟨(k6 + 1, (wrap .i64 (add v8 1))), hc6_, hs6, h_6⟩, Wk.of [(0, some 0)] rfl rfl ?_ ?_, meas_L hc6_⟩
                      · cbv
                        all_goals exact ⟨⟨_, rfl, rfl⟩, ⟨_, rfl, rfl⟩, ⟨_, rfl, rfl⟩, trivial⟩
                      · cbv
                        all_goals exact ⟨⟨_, rfl, _, rfl, rfl, rfl, rfl, rfl, rfl, trivial⟩, trivial⟩
                · have hb24 : lt v8 (llen (r_I64 x4)) = false := ltL_false_I64 hg ht hi6 hc6_
                  rw [List.drop_of_length_le (Nat.le_of_not_lt hc6_)] at h_6
                  rw [L_FnBeltKeeps_l6] at h_6
                  try rw [← hg] at h_6
                  try rw [← ht] at h_6
                  try dsimp only at h_6
                  rw [hb24]
                  cbv
                  refine ⟨(), Wk.of [] rfl rfl ?_ ?_, (Option.some.inj h_6).symm⟩
                  · cbv
                    all_goals exact trivial
                  · cbv
                    all_goals exact trivial
              · rintro _ hy6
                replace hy6 := hy6.symm
                subst hy6
                try dsimp only [lr, lrL, lrp, lrpL] at h
                cbv
                obtain rfl := Option.some.inj h
                exact ARet.mk trivial hX.symm
    | false =>
      rw [br_false hb2] at h
      cbv
      try (rw [hb2]; cbv)
      try (rw [hb2]; cbv)
      try (rw [hb2]; cbv)
      try (rw [hb2]; cbv)
      try (rw [hb2]; cbv)
      obtain rfl := Option.some.inj h
      exact ARet.mk trivial hX.symm
end Go.Vs
