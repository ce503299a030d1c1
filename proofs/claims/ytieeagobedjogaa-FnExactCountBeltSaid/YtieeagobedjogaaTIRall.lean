/- Part of the proofs of this seat's laws: TIRall. No condition. -/
import Derived.Test.YtieeagobedjogaaVf
import Derived.Test.YtieeagobedjogaaProg
set_option linter.unusedVariables false
set_option linter.unusedSimpArgs false
set_option linter.unusedSectionVars false
namespace Go.Vs
open Go.Proofs (Try.prog)
theorem prog_mixed : Try.prog.follows .mixedOrders = true := by kernel_rfl
/-- loop.example/g03014/laws.szItemS -/
def ir76 : J :=
  .seq (.reg none [⟨(some 4), none, .mv (.k (V.i 0))⟩] [0, 1])
  (.seq (.reg none [⟨(some 5), none, .mv (.t 1)⟩,
     ⟨(some 6), none, .mv (.t 0)⟩,
     ⟨(some 7), none, .len false (.t 6)⟩,
     ⟨(some 8), none, .bin .sub .i (.t 5) (.t 7)⟩,
     ⟨(some 1), none, .mv (.t 8)⟩] [1])
  (.seq (.seq (.reg none [⟨(some 9), none, .mv (.t 1)⟩,
      ⟨(some 10), none, .bin .lss .i (.t 9) (.k (V.i 0))⟩] [1, 10])
   (.cond (.t 10)
    (.seq (.reg none [⟨(some 4), none, .mv (.k (V.i (-1)))⟩] [4])
     (.ret))
    (.skip)))
  (.seq (.reg none [⟨(some 11), none, .mv (.t 1)⟩,
     ⟨(some 4), none, .mv (.t 11)⟩] [4])
  (.ret))))
def rv76 : List RV := [.t 4]
/-- loop.example/g03014/laws.szChute -/
def ir112 : J :=
  .seq (.reg none [⟨(some 2), none, .box (.t 0)⟩,
     ⟨(some 4), none, .mv (.k (V.i 0))⟩] [1, 2])
  (.seq (.reg none [⟨(some 5), none, .fa 2 (.t 2)⟩,
     ⟨(some 6), none, .ld false 1 (.t 5)⟩,
     ⟨(some 7), none, .mv (.t 1)⟩,
     ⟨(some 8), none, .call 76 true [(.t 6), (.t 7)]⟩,
     ⟨(some 1), none, .mv (.t 8)⟩] [1])
  (.seq (.seq (.reg none [⟨(some 9), none, .mv (.t 1)⟩,
      ⟨(some 10), none, .bin .lss .i (.t 9) (.k (V.i 0))⟩] [1, 10])
   (.cond (.t 10)
    (.seq (.reg none [⟨(some 4), none, .mv (.k (V.i (-1)))⟩] [4])
     (.ret))
    (.skip)))
  (.seq (.reg none [⟨(some 11), none, .mv (.t 1)⟩,
     ⟨(some 4), none, .mv (.t 11)⟩] [4])
  (.ret))))
def rv112 : List RV := [.t 4]
/-- loop.example/g03014/laws.szChuteS -/
def ir77 : J :=
  .seq (.reg none [⟨(some 4), none, .mv (.k (V.i 0))⟩] [0, 1])
  (.seq (.reg none [⟨(some 6), none, .mv (.t 1)⟩,
     ⟨(some 7), none, .mv (.t 0)⟩,
     ⟨(some 8), none, .len false (.t 7)⟩,
     ⟨(some 9), none, .bin .sub .i (.t 6) (.t 8)⟩,
     ⟨(some 1), none, .mv (.t 9)⟩] [0, 1])
  (.seq (.seq (.reg none [⟨(some 10), none, .mv (.t 1)⟩,
      ⟨(some 11), none, .bin .lss .i (.t 10) (.k (V.i 0))⟩] [0, 1, 11])
   (.cond (.t 11)
    (.seq (.reg none [⟨(some 4), none, .mv (.k (V.i (-1)))⟩] [4])
     (.ret))
    (.skip)))
  (.seq (.seq (.reg none [⟨(some 5), none, .mv (.k (V.i 0))⟩] [0, 1, 5])
   (.bl 0 (.seq (.seq (.reg none [⟨(some 12), none, .mv (.t 5)⟩,
        ⟨(some 13), none, .mv (.t 0)⟩,
        ⟨(some 14), none, .len false (.t 13)⟩,
        ⟨(some 15), none, .bin .lss .i (.t 12) (.t 14)⟩] [0, 1, 5, 15])
     (.cond (.t 15)
      (.skip)
      (.exit 0)))
    (.seq (.block 1 (.seq (.reg none [⟨(some 18), none, .mv (.t 0)⟩,
         ⟨(some 19), none, .mv (.t 5)⟩,
         ⟨(some 20), none, .ia 3 (.t 18) (.t 19)⟩,
         ⟨(some 21), none, .ld true 3 (.t 20)⟩,
         ⟨(some 22), none, .mv (.t 1)⟩,
         ⟨(some 23), none, .call 112 true [(.t 21), (.t 22)]⟩,
         ⟨(some 1), none, .mv (.t 23)⟩] [0, 1, 5])
      (.seq (.reg none [⟨(some 24), none, .mv (.t 1)⟩,
         ⟨(some 25), none, .bin .lss .i (.t 24) (.k (V.i 0))⟩] [0, 1, 5, 25])
      (.cond (.t 25)
       (.seq (.reg none [⟨(some 4), none, .mv (.k (V.i (-1)))⟩] [4])
        (.ret))
       (.skip)))))
    (.reg none [⟨(some 16), none, .mv (.t 5)⟩,
      ⟨(some 17), none, .bin .add .i (.t 16) (.k (V.i 1))⟩,
      ⟨(some 5), none, .mv (.t 17)⟩] [0, 1, 5])))))
  (.seq (.reg none [⟨(some 26), none, .mv (.t 1)⟩,
     ⟨(some 4), none, .mv (.t 26)⟩] [4])
  (.ret)))))
def rv77 : List RV := [.t 4]
/-- loop.example/g03014/laws.szInlet -/
def ir113 : J :=
  .seq (.reg none [⟨(some 2), none, .box (.t 0)⟩,
     ⟨(some 4), none, .mv (.k (V.i 0))⟩] [1, 2])
  (.seq (.reg none [⟨(some 5), none, .fa 1 (.t 2)⟩,
     ⟨(some 6), none, .ld false 1 (.t 5)⟩,
     ⟨(some 7), none, .mv (.t 1)⟩,
     ⟨(some 8), none, .call 76 true [(.t 6), (.t 7)]⟩,
     ⟨(some 1), none, .mv (.t 8)⟩] [1])
  (.seq (.seq (.reg none [⟨(some 9), none, .mv (.t 1)⟩,
      ⟨(some 10), none, .bin .lss .i (.t 9) (.k (V.i 0))⟩] [1, 10])
   (.cond (.t 10)
    (.seq (.reg none [⟨(some 4), none, .mv (.k (V.i (-1)))⟩] [4])
     (.ret))
    (.skip)))
  (.seq (.reg none [⟨(some 11), none, .mv (.t 1)⟩,
     ⟨(some 4), none, .mv (.t 11)⟩] [4])
  (.ret))))
def rv113 : List RV := [.t 4]
/-- loop.example/g03014/laws.szInletS -/
def ir78 : J :=
  .seq (.reg none [⟨(some 4), none, .mv (.k (V.i 0))⟩] [0, 1])
  (.seq (.reg none [⟨(some 6), none, .mv (.t 1)⟩,
     ⟨(some 7), none, .mv (.t 0)⟩,
     ⟨(some 8), none, .len false (.t 7)⟩,
     ⟨(some 9), none, .bin .sub .i (.t 6) (.t 8)⟩,
     ⟨(some 1), none, .mv (.t 9)⟩] [0, 1])
  (.seq (.seq (.reg none [⟨(some 10), none, .mv (.t 1)⟩,
      ⟨(some 11), none, .bin .lss .i (.t 10) (.k (V.i 0))⟩] [0, 1, 11])
   (.cond (.t 11)
    (.seq (.reg none [⟨(some 4), none, .mv (.k (V.i (-1)))⟩] [4])
     (.ret))
    (.skip)))
  (.seq (.seq (.reg none [⟨(some 5), none, .mv (.k (V.i 0))⟩] [0, 1, 5])
   (.bl 0 (.seq (.seq (.reg none [⟨(some 12), none, .mv (.t 5)⟩,
        ⟨(some 13), none, .mv (.t 0)⟩,
        ⟨(some 14), none, .len false (.t 13)⟩,
        ⟨(some 15), none, .bin .lss .i (.t 12) (.t 14)⟩] [0, 1, 5, 15])
     (.cond (.t 15)
      (.skip)
      (.exit 0)))
    (.seq (.block 1 (.seq (.reg none [⟨(some 18), none, .mv (.t 0)⟩,
         ⟨(some 19), none, .mv (.t 5)⟩,
         ⟨(some 20), none, .ia 2 (.t 18) (.t 19)⟩,
         ⟨(some 21), none, .ld true 2 (.t 20)⟩,
         ⟨(some 22), none, .mv (.t 1)⟩,
         ⟨(some 23), none, .call 113 true [(.t 21), (.t 22)]⟩,
         ⟨(some 1), none, .mv (.t 23)⟩] [0, 1, 5])
      (.seq (.reg none [⟨(some 24), none, .mv (.t 1)⟩,
         ⟨(some 25), none, .bin .lss .i (.t 24) (.k (V.i 0))⟩] [0, 1, 5, 25])
      (.cond (.t 25)
       (.seq (.reg none [⟨(some 4), none, .mv (.k (V.i (-1)))⟩] [4])
        (.ret))
       (.skip)))))
    (.reg none [⟨(some 16), none, .mv (.t 5)⟩,
      ⟨(some 17), none, .bin .add .i (.t 16) (.k (V.i 1))⟩,
      ⟨(some 5), none, .mv (.t 17)⟩] [0, 1, 5])))))
  (.seq (.reg none [⟨(some 26), none, .mv (.t 1)⟩,
     ⟨(some 4), none, .mv (.t 26)⟩] [4])
  (.ret)))))
def rv78 : List RV := [.t 4]
/-- loop.example/g03014/laws.szIntS -/
def ir79 : J :=
  .seq (.reg none [⟨(some 4), none, .mv (.k (V.i 0))⟩] [0, 1])
  (.seq (.reg none [⟨(some 5), none, .mv (.t 1)⟩,
     ⟨(some 6), none, .mv (.t 0)⟩,
     ⟨(some 7), none, .len false (.t 6)⟩,
     ⟨(some 8), none, .bin .sub .i (.t 5) (.t 7)⟩,
     ⟨(some 1), none, .mv (.t 8)⟩] [1])
  (.seq (.seq (.reg none [⟨(some 9), none, .mv (.t 1)⟩,
      ⟨(some 10), none, .bin .lss .i (.t 9) (.k (V.i 0))⟩] [1, 10])
   (.cond (.t 10)
    (.seq (.reg none [⟨(some 4), none, .mv (.k (V.i (-1)))⟩] [4])
     (.ret))
    (.skip)))
  (.seq (.reg none [⟨(some 11), none, .mv (.t 1)⟩,
     ⟨(some 4), none, .mv (.t 11)⟩] [4])
  (.ret))))
def rv79 : List RV := [.t 4]
/-- loop.example/g03014/laws.szCentre -/
def ir24 : J :=
  .seq (.reg none [⟨(some 2), none, .box (.t 0)⟩,
     ⟨(some 4), none, .mv (.k (V.i 0))⟩] [1, 2])
  (.seq (.reg none [⟨(some 5), none, .fa 0 (.t 2)⟩,
     ⟨(some 6), none, .ld false 1 (.t 5)⟩,
     ⟨(some 7), none, .mv (.t 1)⟩,
     ⟨(some 8), none, .call 76 true [(.t 6), (.t 7)]⟩,
     ⟨(some 1), none, .mv (.t 8)⟩] [1, 2])
  (.seq (.seq (.reg none [⟨(some 9), none, .mv (.t 1)⟩,
      ⟨(some 10), none, .bin .lss .i (.t 9) (.k (V.i 0))⟩] [1, 2, 10])
   (.cond (.t 10)
    (.seq (.reg none [⟨(some 4), none, .mv (.k (V.i (-1)))⟩] [4])
     (.ret))
    (.skip)))
  (.seq (.reg none [⟨(some 11), none, .fa 1 (.t 2)⟩,
     ⟨(some 12), none, .ld false 1 (.t 11)⟩,
     ⟨(some 13), none, .mv (.t 1)⟩,
     ⟨(some 14), none, .call 77 true [(.t 12), (.t 13)]⟩,
     ⟨(some 1), none, .mv (.t 14)⟩] [1, 2])
  (.seq (.seq (.reg none [⟨(some 15), none, .mv (.t 1)⟩,
      ⟨(some 16), none, .bin .lss .i (.t 15) (.k (V.i 0))⟩] [1, 2, 16])
   (.cond (.t 16)
    (.seq (.reg none [⟨(some 4), none, .mv (.k (V.i (-1)))⟩] [4])
     (.ret))
    (.skip)))
  (.seq (.reg none [⟨(some 17), none, .fa 2 (.t 2)⟩,
     ⟨(some 18), none, .ld false 1 (.t 17)⟩,
     ⟨(some 19), none, .mv (.t 1)⟩,
     ⟨(some 20), none, .call 78 true [(.t 18), (.t 19)]⟩,
     ⟨(some 1), none, .mv (.t 20)⟩] [1, 2])
  (.seq (.seq (.reg none [⟨(some 21), none, .mv (.t 1)⟩,
      ⟨(some 22), none, .bin .lss .i (.t 21) (.k (V.i 0))⟩] [1, 2, 22])
   (.cond (.t 22)
    (.seq (.reg none [⟨(some 4), none, .mv (.k (V.i (-1)))⟩] [4])
     (.ret))
    (.skip)))
  (.seq (.reg none [⟨(some 23), none, .fa 3 (.t 2)⟩,
     ⟨(some 24), none, .ld false 1 (.t 23)⟩,
     ⟨(some 25), none, .mv (.t 1)⟩,
     ⟨(some 26), none, .call 79 true [(.t 24), (.t 25)]⟩,
     ⟨(some 1), none, .mv (.t 26)⟩] [1])
  (.seq (.seq (.reg none [⟨(some 27), none, .mv (.t 1)⟩,
      ⟨(some 28), none, .bin .lss .i (.t 27) (.k (V.i 0))⟩] [1, 28])
   (.cond (.t 28)
    (.seq (.reg none [⟨(some 4), none, .mv (.k (V.i (-1)))⟩] [4])
     (.ret))
    (.skip)))
  (.seq (.reg none [⟨(some 29), none, .mv (.t 1)⟩,
     ⟨(some 4), none, .mv (.t 29)⟩] [4])
  (.ret))))))))))
def rv24 : List RV := [.t 4]
/-- loop.example/g03014/spec.CountWait -/
def ir25 : J :=
  .seq (.reg none [⟨(some 1), none, .box (.t 0)⟩,
     ⟨(some 2), none, .mv (.k (V.i 0))⟩] [1])
  (.seq (.reg none [⟨(some 3), none, .mv (.k (V.i 0))⟩] [1, 3])
  (.seq (.seq (.reg none [⟨(some 4), none, .mv (.k (V.i 0))⟩] [1, 3, 4])
   (.bl 0 (.seq (.seq (.reg none [⟨(some 5), none, .mv (.t 4)⟩,
        ⟨(some 6), none, .fa 2 (.t 1)⟩,
        ⟨(some 7), none, .ld false 1 (.t 6)⟩,
        ⟨(some 8), none, .len false (.t 7)⟩,
        ⟨(some 9), none, .bin .lss .i (.t 5) (.t 8)⟩] [1, 3, 4, 9])
     (.cond (.t 9)
      (.skip)
      (.exit 0)))
    (.seq (.block 1 (.reg none [⟨(some 12), none, .mv (.t 3)⟩,
        ⟨(some 13), none, .fa 2 (.t 1)⟩,
        ⟨(some 14), none, .ld false 1 (.t 13)⟩,
        ⟨(some 15), none, .mv (.t 4)⟩,
        ⟨(some 16), none, .ia 2 (.t 14) (.t 15)⟩,
        ⟨(some 17), none, .fa 1 (.t 16)⟩,
        ⟨(some 18), none, .ld false 1 (.t 17)⟩,
        ⟨(some 19), none, .len false (.t 18)⟩,
        ⟨(some 20), none, .bin .add .i (.t 12) (.t 19)⟩,
        ⟨(some 3), none, .mv (.t 20)⟩] [1, 3, 4]))
    (.reg none [⟨(some 10), none, .mv (.t 4)⟩,
      ⟨(some 11), none, .bin .add .i (.t 10) (.k (V.i 1))⟩,
      ⟨(some 4), none, .mv (.t 11)⟩] [1, 3, 4])))))
  (.seq (.reg none [⟨(some 21), none, .mv (.t 3)⟩,
     ⟨(some 2), none, .mv (.t 21)⟩] [2])
  (.ret))))
def rv25 : List RV := [.t 2]
/-- loop.example/g03014/laws.toIntS -/
def ir45 : J :=
  .seq (.reg none [⟨(some 2), none, .mv (.k (.c (.n 1)))⟩] [0])
  (.seq (.reg none [⟨(some 5), none, .mv (.t 0)⟩,
     ⟨(some 6), none, .len false (.t 5)⟩,
     ⟨(some 7), none, .mk 1 8 [.r (.v (.int .i64 0))] (.t 6)⟩,
     ⟨(some 3), none, .mv (.t 7)⟩] [0, 3])
  (.seq (.seq (.reg none [⟨(some 4), none, .mv (.k (V.i 0))⟩] [0, 3, 4])
   (.bl 0 (.seq (.seq (.reg none [⟨(some 8), none, .mv (.t 4)⟩,
        ⟨(some 9), none, .mv (.t 0)⟩,
        ⟨(some 10), none, .len false (.t 9)⟩,
        ⟨(some 11), none, .bin .lss .i (.t 8) (.t 10)⟩] [0, 3, 4, 11])
     (.cond (.t 11)
      (.skip)
      (.exit 0)))
    (.seq (.block 1 (.reg none [⟨(some 14), none, .mv (.t 3)⟩,
        ⟨(some 15), none, .mv (.t 4)⟩,
        ⟨(some 16), none, .mv (.t 0)⟩,
        ⟨(some 17), none, .mv (.t 4)⟩,
        ⟨(some 18), none, .ia 1 (.t 16) (.t 17)⟩,
        ⟨(some 19), none, .ld false 1 (.t 18)⟩,
        ⟨(some 20), none, .ia 1 (.t 14) (.t 15)⟩,
        ⟨none, none, .st 1 (.t 20) (.t 19)⟩] [0, 3, 4]))
    (.reg none [⟨(some 12), none, .mv (.t 4)⟩,
      ⟨(some 13), none, .bin .add .i (.t 12) (.k (V.i 1))⟩,
      ⟨(some 4), none, .mv (.t 13)⟩] [0, 3, 4])))))
  (.seq (.reg none [⟨(some 21), none, .mv (.t 3)⟩,
     ⟨(some 2), none, .mv (.t 21)⟩] [2])
  (.ret))))
def rv45 : List RV := [.t 2]
/-- loop.example/g03014/laws.toItem -/
def ir70 : J :=
  .seq (.reg none [⟨(some 1), none, .box (.t 0)⟩,
     ⟨(some 2), none, .alloc [.r (.v (.int .i64 0)), .r (.v (.int .i64 0))]⟩] [1, 2])
  (.seq (.reg none [⟨(some 3), none, .alloc [.r (.v (.int .i64 0)), .r (.v (.int .i64 0))]⟩] [1, 2, 3])
  (.seq (.reg none [⟨(some 4), none, .fa 0 (.t 1)⟩,
     ⟨(some 5), none, .ld false 1 (.t 4)⟩,
     ⟨(some 6), none, .fa 0 (.t 3)⟩,
     ⟨none, none, .st 1 (.t 6) (.t 5)⟩] [1, 2, 3])
  (.seq (.reg none [⟨(some 7), none, .fa 1 (.t 1)⟩,
     ⟨(some 8), none, .ld false 1 (.t 7)⟩,
     ⟨(some 9), none, .fa 1 (.t 3)⟩,
     ⟨none, none, .st 1 (.t 9) (.t 8)⟩] [2, 3])
  (.seq (.reg none [⟨(some 10), none, .ld true 2 (.t 3)⟩,
     ⟨none, none, .st 2 (.t 2) (.t 10)⟩] [2])
  (.ret)))))
def rv70 : List RV := [.c 2 true 2]
/-- loop.example/g03014/laws.toItemS -/
def ir80 : J :=
  .seq (.reg none [⟨(some 2), none, .mv (.k (.c (.n 2)))⟩] [0])
  (.seq (.reg none [⟨(some 5), none, .mv (.t 0)⟩,
     ⟨(some 6), none, .len false (.t 5)⟩,
     ⟨(some 7), none, .mk 2 16 [.r (.v (.int .i64 0)), .r (.v (.int .i64 0))] (.t 6)⟩,
     ⟨(some 3), none, .mv (.t 7)⟩] [0, 3])
  (.seq (.seq (.reg none [⟨(some 4), none, .mv (.k (V.i 0))⟩] [0, 3, 4])
   (.bl 0 (.seq (.seq (.reg none [⟨(some 8), none, .mv (.t 4)⟩,
        ⟨(some 9), none, .mv (.t 0)⟩,
        ⟨(some 10), none, .len false (.t 9)⟩,
        ⟨(some 11), none, .bin .lss .i (.t 8) (.t 10)⟩] [0, 3, 4, 11])
     (.cond (.t 11)
      (.skip)
      (.exit 0)))
    (.seq (.block 1 (.reg none [⟨(some 14), none, .mv (.t 3)⟩,
        ⟨(some 15), none, .mv (.t 4)⟩,
        ⟨(some 16), none, .mv (.t 0)⟩,
        ⟨(some 17), none, .mv (.t 4)⟩,
        ⟨(some 18), none, .ia 2 (.t 16) (.t 17)⟩,
        ⟨(some 19), none, .ld true 2 (.t 18)⟩,
        ⟨(some 20), none, .call 70 true [(.t 19)]⟩,
        ⟨(some 21), none, .ia 2 (.t 14) (.t 15)⟩,
        ⟨none, none, .st 2 (.t 21) (.t 20)⟩] [0, 3, 4]))
    (.reg none [⟨(some 12), none, .mv (.t 4)⟩,
      ⟨(some 13), none, .bin .add .i (.t 12) (.k (V.i 1))⟩,
      ⟨(some 4), none, .mv (.t 13)⟩] [0, 3, 4])))))
  (.seq (.reg none [⟨(some 22), none, .mv (.t 3)⟩,
     ⟨(some 2), none, .mv (.t 22)⟩] [2])
  (.ret))))
def rv80 : List RV := [.t 2]
/-- loop.example/g03014/laws.toChute -/
def ir114 : J :=
  .seq (.reg none [⟨(some 1), none, .box (.t 0)⟩,
     ⟨(some 2), none, .alloc [.r (.v (.int .i64 0)), .r (.v (.int .i64 0)), .n 2]⟩] [1, 2])
  (.seq (.reg none [⟨(some 3), none, .alloc [.r (.v (.int .i64 0)), .r (.v (.int .i64 0)), .n 2]⟩] [1, 2, 3])
  (.seq (.reg none [⟨(some 4), none, .fa 0 (.t 1)⟩,
     ⟨(some 5), none, .ld false 1 (.t 4)⟩,
     ⟨(some 6), none, .fa 0 (.t 3)⟩,
     ⟨none, none, .st 1 (.t 6) (.t 5)⟩] [1, 2, 3])
  (.seq (.reg none [⟨(some 7), none, .fa 1 (.t 1)⟩,
     ⟨(some 8), none, .ld false 1 (.t 7)⟩,
     ⟨(some 9), none, .fa 1 (.t 3)⟩,
     ⟨none, none, .st 1 (.t 9) (.t 8)⟩] [1, 2, 3])
  (.seq (.reg none [⟨(some 10), none, .fa 2 (.t 1)⟩,
     ⟨(some 11), none, .ld false 1 (.t 10)⟩,
     ⟨(some 12), none, .call 80 true [(.t 11)]⟩,
     ⟨(some 13), none, .fa 2 (.t 3)⟩,
     ⟨none, none, .st 1 (.t 13) (.t 12)⟩] [2, 3])
  (.seq (.reg none [⟨(some 14), none, .ld true 3 (.t 3)⟩,
     ⟨none, none, .st 3 (.t 2) (.t 14)⟩] [2])
  (.ret))))))
def rv114 : List RV := [.c 2 true 3]
/-- loop.example/g03014/laws.toChuteS -/
def ir81 : J :=
  .seq (.reg none [⟨(some 2), none, .mv (.k (.c (.n 3)))⟩] [0])
  (.seq (.reg none [⟨(some 5), none, .mv (.t 0)⟩,
     ⟨(some 6), none, .len false (.t 5)⟩,
     ⟨(some 7), none, .mk 3 40 [.r (.v (.int .i64 0)), .r (.v (.int .i64 0)), .n 2] (.t 6)⟩,
     ⟨(some 3), none, .mv (.t 7)⟩] [0, 3])
  (.seq (.seq (.reg none [⟨(some 4), none, .mv (.k (V.i 0))⟩] [0, 3, 4])
   (.bl 0 (.seq (.seq (.reg none [⟨(some 8), none, .mv (.t 4)⟩,
        ⟨(some 9), none, .mv (.t 0)⟩,
        ⟨(some 10), none, .len false (.t 9)⟩,
        ⟨(some 11), none, .bin .lss .i (.t 8) (.t 10)⟩] [0, 3, 4, 11])
     (.cond (.t 11)
      (.skip)
      (.exit 0)))
    (.seq (.block 1 (.reg none [⟨(some 14), none, .mv (.t 3)⟩,
        ⟨(some 15), none, .mv (.t 4)⟩,
        ⟨(some 16), none, .mv (.t 0)⟩,
        ⟨(some 17), none, .mv (.t 4)⟩,
        ⟨(some 18), none, .ia 3 (.t 16) (.t 17)⟩,
        ⟨(some 19), none, .ld true 3 (.t 18)⟩,
        ⟨(some 20), none, .call 114 true [(.t 19)]⟩,
        ⟨(some 21), none, .ia 3 (.t 14) (.t 15)⟩,
        ⟨none, none, .st 3 (.t 21) (.t 20)⟩] [0, 3, 4]))
    (.reg none [⟨(some 12), none, .mv (.t 4)⟩,
      ⟨(some 13), none, .bin .add .i (.t 12) (.k (V.i 1))⟩,
      ⟨(some 4), none, .mv (.t 13)⟩] [0, 3, 4])))))
  (.seq (.reg none [⟨(some 22), none, .mv (.t 3)⟩,
     ⟨(some 2), none, .mv (.t 22)⟩] [2])
  (.ret))))
def rv81 : List RV := [.t 2]
/-- loop.example/g03014/laws.toInlet -/
def ir115 : J :=
  .seq (.reg none [⟨(some 1), none, .box (.t 0)⟩,
     ⟨(some 2), none, .alloc [.r (.v (.int .i64 0)), .n 2]⟩] [1, 2])
  (.seq (.reg none [⟨(some 3), none, .alloc [.r (.v (.int .i64 0)), .n 2]⟩] [1, 2, 3])
  (.seq (.reg none [⟨(some 4), none, .fa 0 (.t 1)⟩,
     ⟨(some 5), none, .ld false 1 (.t 4)⟩,
     ⟨(some 6), none, .fa 0 (.t 3)⟩,
     ⟨none, none, .st 1 (.t 6) (.t 5)⟩] [1, 2, 3])
  (.seq (.reg none [⟨(some 7), none, .fa 1 (.t 1)⟩,
     ⟨(some 8), none, .ld false 1 (.t 7)⟩,
     ⟨(some 9), none, .call 80 true [(.t 8)]⟩,
     ⟨(some 10), none, .fa 1 (.t 3)⟩,
     ⟨none, none, .st 1 (.t 10) (.t 9)⟩] [2, 3])
  (.seq (.reg none [⟨(some 11), none, .ld true 2 (.t 3)⟩,
     ⟨none, none, .st 2 (.t 2) (.t 11)⟩] [2])
  (.ret)))))
def rv115 : List RV := [.c 2 true 2]
/-- loop.example/g03014/laws.toInletS -/
def ir82 : J :=
  .seq (.reg none [⟨(some 2), none, .mv (.k (.c (.n 2)))⟩] [0])
  (.seq (.reg none [⟨(some 5), none, .mv (.t 0)⟩,
     ⟨(some 6), none, .len false (.t 5)⟩,
     ⟨(some 7), none, .mk 2 32 [.r (.v (.int .i64 0)), .n 2] (.t 6)⟩,
     ⟨(some 3), none, .mv (.t 7)⟩] [0, 3])
  (.seq (.seq (.reg none [⟨(some 4), none, .mv (.k (V.i 0))⟩] [0, 3, 4])
   (.bl 0 (.seq (.seq (.reg none [⟨(some 8), none, .mv (.t 4)⟩,
        ⟨(some 9), none, .mv (.t 0)⟩,
        ⟨(some 10), none, .len false (.t 9)⟩,
        ⟨(some 11), none, .bin .lss .i (.t 8) (.t 10)⟩] [0, 3, 4, 11])
     (.cond (.t 11)
      (.skip)
      (.exit 0)))
    (.seq (.block 1 (.reg none [⟨(some 14), none, .mv (.t 3)⟩,
        ⟨(some 15), none, .mv (.t 4)⟩,
        ⟨(some 16), none, .mv (.t 0)⟩,
        ⟨(some 17), none, .mv (.t 4)⟩,
        ⟨(some 18), none, .ia 2 (.t 16) (.t 17)⟩,
        ⟨(some 19), none, .ld true 2 (.t 18)⟩,
        ⟨(some 20), none, .call 115 true [(.t 19)]⟩,
        ⟨(some 21), none, .ia 2 (.t 14) (.t 15)⟩,
        ⟨none, none, .st 2 (.t 21) (.t 20)⟩] [0, 3, 4]))
    (.reg none [⟨(some 12), none, .mv (.t 4)⟩,
      ⟨(some 13), none, .bin .add .i (.t 12) (.k (V.i 1))⟩,
      ⟨(some 4), none, .mv (.t 13)⟩] [0, 3, 4])))))
  (.seq (.reg none [⟨(some 22), none, .mv (.t 3)⟩,
     ⟨(some 2), none, .mv (.t 22)⟩] [2])
  (.ret))))
def rv82 : List RV := [.t 2]
/-- loop.example/g03014/laws.toCentre -/
def ir26 : J :=
  .seq (.reg none [⟨(some 1), none, .box (.t 0)⟩,
     ⟨(some 2), none, .alloc [.n 2, .n 3, .n 2, .n 1, .r (.v (.int .i64 0))]⟩] [1, 2])
  (.seq (.reg none [⟨(some 3), none, .alloc [.n 2, .n 3, .n 2, .n 1, .r (.v (.int .i64 0))]⟩] [1, 2, 3])
  (.seq (.reg none [⟨(some 4), none, .fa 0 (.t 1)⟩,
     ⟨(some 5), none, .ld false 1 (.t 4)⟩,
     ⟨(some 6), none, .call 80 true [(.t 5)]⟩,
     ⟨(some 7), none, .fa 0 (.t 3)⟩,
     ⟨none, none, .st 1 (.t 7) (.t 6)⟩] [1, 2, 3])
  (.seq (.reg none [⟨(some 8), none, .fa 1 (.t 1)⟩,
     ⟨(some 9), none, .ld false 1 (.t 8)⟩,
     ⟨(some 10), none, .call 81 true [(.t 9)]⟩,
     ⟨(some 11), none, .fa 1 (.t 3)⟩,
     ⟨none, none, .st 1 (.t 11) (.t 10)⟩] [1, 2, 3])
  (.seq (.reg none [⟨(some 12), none, .fa 2 (.t 1)⟩,
     ⟨(some 13), none, .ld false 1 (.t 12)⟩,
     ⟨(some 14), none, .call 82 true [(.t 13)]⟩,
     ⟨(some 15), none, .fa 2 (.t 3)⟩,
     ⟨none, none, .st 1 (.t 15) (.t 14)⟩] [1, 2, 3])
  (.seq (.reg none [⟨(some 16), none, .fa 3 (.t 1)⟩,
     ⟨(some 17), none, .ld false 1 (.t 16)⟩,
     ⟨(some 18), none, .call 45 true [(.t 17)]⟩,
     ⟨(some 19), none, .fa 3 (.t 3)⟩,
     ⟨none, none, .st 1 (.t 19) (.t 18)⟩] [1, 2, 3])
  (.seq (.reg none [⟨(some 20), none, .fa 4 (.t 1)⟩,
     ⟨(some 21), none, .ld false 1 (.t 20)⟩,
     ⟨(some 22), none, .fa 4 (.t 3)⟩,
     ⟨none, none, .st 1 (.t 22) (.t 21)⟩] [2, 3])
  (.seq (.reg none [⟨(some 23), none, .ld true 5 (.t 3)⟩,
     ⟨none, none, .st 5 (.t 2) (.t 23)⟩] [2])
  (.ret))))))))
def rv26 : List RV := [.c 2 true 5]
/-- loop.example/g03014/impl.CountWait -/
def ir27 : J :=
  .seq (.reg none [⟨(some 1), none, .box (.t 0)⟩,
     ⟨(some 2), none, .mv (.k (V.i 0))⟩] [1])
  (.seq (.reg none [⟨(some 3), none, .mv (.k (V.i 0))⟩] [1, 3])
  (.seq (.seq (.reg none [⟨(some 6), none, .fa 2 (.t 1)⟩,
      ⟨(some 7), none, .ld false 1 (.t 6)⟩,
      ⟨(some 8), none, .len false (.t 7)⟩,
      ⟨(some 9), none, .mv (.k (V.i 0))⟩] [3, 7, 8, 9])
   (.bl 0 (.seq (.reg none [⟨(some 10), none, .bin .lss .i (.t 9) (.t 8)⟩] [3, 7, 8, 9, 10])
    (.seq (.cond (.t 10)
      (.skip)
      (.exit 0))
    (.seq (.block 1 (.seq (.reg none [⟨(some 11), none, .ia 2 (.t 7) (.t 9)⟩,
         ⟨(some 12), none, .ld true 2 (.t 11)⟩,
         ⟨(some 5), none, .alloc [.r (.v (.int .i64 0)), .n 2]⟩,
         ⟨none, none, .st 2 (.t 5) (.t 12)⟩] [3, 5, 7, 8, 9])
      (.reg none [⟨(some 13), none, .mv (.t 3)⟩,
        ⟨(some 14), none, .fa 1 (.t 5)⟩,
        ⟨(some 15), none, .ld false 1 (.t 14)⟩,
        ⟨(some 16), none, .len false (.t 15)⟩,
        ⟨(some 17), none, .bin .add .i (.t 13) (.t 16)⟩,
        ⟨(some 3), none, .mv (.t 17)⟩] [3, 7, 8, 9])))
    (.reg none [⟨(some 18), none, .bin .add .i (.t 9) (.k (V.i 1))⟩,
      ⟨(some 9), none, .mv (.t 18)⟩] [3, 7, 8, 9]))))))
  (.seq (.reg none [⟨(some 19), none, .mv (.t 3)⟩,
     ⟨(some 2), none, .mv (.t 19)⟩] [2])
  (.ret))))
def rv27 : List RV := [.t 2]
/-- loop.example/g03014/laws.eqIntS -/
def ir47 : J :=
  .seq (.reg none [⟨(some 4), none, .mv (.k (V.b false))⟩] [0, 1])
  (.seq (.seq (.reg none [⟨(some 6), none, .mv (.t 0)⟩,
      ⟨(some 7), none, .len false (.t 6)⟩,
      ⟨(some 8), none, .mv (.t 1)⟩,
      ⟨(some 9), none, .len false (.t 8)⟩,
      ⟨(some 10), none, .bin .neq .i (.t 7) (.t 9)⟩] [0, 1, 10])
   (.cond (.t 10)
    (.seq (.reg none [⟨(some 4), none, .mv (.k (V.b false))⟩] [4])
     (.ret))
    (.skip)))
  (.seq (.seq (.reg none [⟨(some 5), none, .mv (.k (V.i 0))⟩] [0, 1, 5])
   (.bl 0 (.seq (.seq (.reg none [⟨(some 11), none, .mv (.t 5)⟩,
        ⟨(some 12), none, .mv (.t 0)⟩,
        ⟨(some 13), none, .len false (.t 12)⟩,
        ⟨(some 14), none, .bin .lss .i (.t 11) (.t 13)⟩] [0, 1, 5, 14])
     (.cond (.t 14)
      (.skip)
      (.exit 0)))
    (.seq (.block 1 (.seq (.reg (some [[], [], [0, 1], [0, 1, 2], [], [], [4, 5], [4, 5, 6], [0, 1, 2, 3, 4, 5, 6, 7]]) [⟨(some 17), none, .mv (.t 0)⟩,
         ⟨(some 18), none, .mv (.t 5)⟩,
         ⟨(some 19), none, .ia 1 (.t 17) (.t 18)⟩,
         ⟨(some 20), none, .ld false 1 (.t 19)⟩,
         ⟨(some 21), none, .mv (.t 1)⟩,
         ⟨(some 22), none, .mv (.t 5)⟩,
         ⟨(some 23), none, .ia 1 (.t 21) (.t 22)⟩,
         ⟨(some 24), none, .ld false 1 (.t 23)⟩,
         ⟨(some 25), none, .bin .neq .i (.t 20) (.t 24)⟩] [0, 1, 5, 25])
      (.cond (.t 25)
       (.seq (.reg none [⟨(some 4), none, .mv (.k (V.b false))⟩] [4])
        (.ret))
       (.skip))))
    (.reg none [⟨(some 15), none, .mv (.t 5)⟩,
      ⟨(some 16), none, .bin .add .i (.t 15) (.k (V.i 1))⟩,
      ⟨(some 5), none, .mv (.t 16)⟩] [0, 1, 5])))))
  (.seq (.reg none [⟨(some 4), none, .mv (.k (V.b true))⟩] [4])
  (.ret))))
def rv47 : List RV := [.t 4]
/-- loop.example/g03014/laws.eqItem -/
def ir110 : J :=
  .seq (.reg none [⟨(some 2), none, .box (.t 0)⟩,
     ⟨(some 3), none, .box (.t 1)⟩,
     ⟨(some 4), none, .mv (.k (V.b false))⟩] [2, 3])
  (.seq (.seq (.reg none [⟨(some 5), none, .fa 0 (.t 2)⟩,
      ⟨(some 6), none, .ld false 1 (.t 5)⟩,
      ⟨(some 7), none, .fa 0 (.t 3)⟩,
      ⟨(some 8), none, .ld false 1 (.t 7)⟩,
      ⟨(some 9), none, .bin .neq .i (.t 6) (.t 8)⟩] [2, 3, 9])
   (.cond (.t 9)
    (.seq (.reg none [⟨(some 4), none, .mv (.k (V.b false))⟩] [4])
     (.ret))
    (.skip)))
  (.seq (.seq (.reg none [⟨(some 10), none, .fa 1 (.t 2)⟩,
      ⟨(some 11), none, .ld false 1 (.t 10)⟩,
      ⟨(some 12), none, .fa 1 (.t 3)⟩,
      ⟨(some 13), none, .ld false 1 (.t 12)⟩,
      ⟨(some 14), none, .bin .neq .i (.t 11) (.t 13)⟩] [14])
   (.cond (.t 14)
    (.seq (.reg none [⟨(some 4), none, .mv (.k (V.b false))⟩] [4])
     (.ret))
    (.skip)))
  (.seq (.reg none [⟨(some 4), none, .mv (.k (V.b true))⟩] [4])
  (.ret))))
def rv110 : List RV := [.t 4]
/-- loop.example/g03014/laws.eqItemS -/
def ir64 : J :=
  .seq (.reg none [⟨(some 4), none, .mv (.k (V.b false))⟩] [0, 1])
  (.seq (.seq (.reg none [⟨(some 6), none, .mv (.t 0)⟩,
      ⟨(some 7), none, .len false (.t 6)⟩,
      ⟨(some 8), none, .mv (.t 1)⟩,
      ⟨(some 9), none, .len false (.t 8)⟩,
      ⟨(some 10), none, .bin .neq .i (.t 7) (.t 9)⟩] [0, 1, 10])
   (.cond (.t 10)
    (.seq (.reg none [⟨(some 4), none, .mv (.k (V.b false))⟩] [4])
     (.ret))
    (.skip)))
  (.seq (.seq (.reg none [⟨(some 5), none, .mv (.k (V.i 0))⟩] [0, 1, 5])
   (.bl 0 (.seq (.seq (.reg none [⟨(some 11), none, .mv (.t 5)⟩,
        ⟨(some 12), none, .mv (.t 0)⟩,
        ⟨(some 13), none, .len false (.t 12)⟩,
        ⟨(some 14), none, .bin .lss .i (.t 11) (.t 13)⟩] [0, 1, 5, 14])
     (.cond (.t 14)
      (.skip)
      (.exit 0)))
    (.seq (.block 1 (.seq (.reg (some [[], [], [0, 1], [0, 1, 2], [], [], [4, 5], [4, 5, 6], [0, 1, 2, 3, 4, 5, 6, 7], [0, 1, 2, 3, 4, 5, 6, 7, 8]]) [⟨(some 17), none, .mv (.t 0)⟩,
         ⟨(some 18), none, .mv (.t 5)⟩,
         ⟨(some 19), none, .ia 2 (.t 17) (.t 18)⟩,
         ⟨(some 20), none, .ld true 2 (.t 19)⟩,
         ⟨(some 21), none, .mv (.t 1)⟩,
         ⟨(some 22), none, .mv (.t 5)⟩,
         ⟨(some 23), none, .ia 2 (.t 21) (.t 22)⟩,
         ⟨(some 24), none, .ld true 2 (.t 23)⟩,
         ⟨(some 25), none, .call 110 true [(.t 20), (.t 24)]⟩,
         ⟨(some 26), none, .not (.t 25)⟩] [0, 1, 5, 26])
      (.cond (.t 26)
       (.seq (.reg none [⟨(some 4), none, .mv (.k (V.b false))⟩] [4])
        (.ret))
       (.skip))))
    (.reg none [⟨(some 15), none, .mv (.t 5)⟩,
      ⟨(some 16), none, .bin .add .i (.t 15) (.k (V.i 1))⟩,
      ⟨(some 5), none, .mv (.t 16)⟩] [0, 1, 5])))))
  (.seq (.reg none [⟨(some 4), none, .mv (.k (V.b true))⟩] [4])
  (.ret))))
def rv64 : List RV := [.t 4]
/-- loop.example/g03014/laws.eqChute -/
def ir116 : J :=
  .seq (.reg none [⟨(some 2), none, .box (.t 0)⟩,
     ⟨(some 3), none, .box (.t 1)⟩,
     ⟨(some 4), none, .mv (.k (V.b false))⟩] [2, 3])
  (.seq (.seq (.reg none [⟨(some 5), none, .fa 0 (.t 2)⟩,
      ⟨(some 6), none, .ld false 1 (.t 5)⟩,
      ⟨(some 7), none, .fa 0 (.t 3)⟩,
      ⟨(some 8), none, .ld false 1 (.t 7)⟩,
      ⟨(some 9), none, .bin .neq .i (.t 6) (.t 8)⟩] [2, 3, 9])
   (.cond (.t 9)
    (.seq (.reg none [⟨(some 4), none, .mv (.k (V.b false))⟩] [4])
     (.ret))
    (.skip)))
  (.seq (.seq (.reg none [⟨(some 10), none, .fa 1 (.t 2)⟩,
      ⟨(some 11), none, .ld false 1 (.t 10)⟩,
      ⟨(some 12), none, .fa 1 (.t 3)⟩,
      ⟨(some 13), none, .ld false 1 (.t 12)⟩,
      ⟨(some 14), none, .bin .neq .i (.t 11) (.t 13)⟩] [2, 3, 14])
   (.cond (.t 14)
    (.seq (.reg none [⟨(some 4), none, .mv (.k (V.b false))⟩] [4])
     (.ret))
    (.skip)))
  (.seq (.seq (.reg none [⟨(some 15), none, .fa 2 (.t 2)⟩,
      ⟨(some 16), none, .ld false 1 (.t 15)⟩,
      ⟨(some 17), none, .fa 2 (.t 3)⟩,
      ⟨(some 18), none, .ld false 1 (.t 17)⟩,
      ⟨(some 19), none, .call 64 true [(.t 16), (.t 18)]⟩,
      ⟨(some 20), none, .not (.t 19)⟩] [20])
   (.cond (.t 20)
    (.seq (.reg none [⟨(some 4), none, .mv (.k (V.b false))⟩] [4])
     (.ret))
    (.skip)))
  (.seq (.reg none [⟨(some 4), none, .mv (.k (V.b true))⟩] [4])
  (.ret)))))
def rv116 : List RV := [.t 4]
/-- loop.example/g03014/laws.eqChuteS -/
def ir83 : J :=
  .seq (.reg none [⟨(some 4), none, .mv (.k (V.b false))⟩] [0, 1])
  (.seq (.seq (.reg none [⟨(some 6), none, .mv (.t 0)⟩,
      ⟨(some 7), none, .len false (.t 6)⟩,
      ⟨(some 8), none, .mv (.t 1)⟩,
      ⟨(some 9), none, .len false (.t 8)⟩,
      ⟨(some 10), none, .bin .neq .i (.t 7) (.t 9)⟩] [0, 1, 10])
   (.cond (.t 10)
    (.seq (.reg none [⟨(some 4), none, .mv (.k (V.b false))⟩] [4])
     (.ret))
    (.skip)))
  (.seq (.seq (.reg none [⟨(some 5), none, .mv (.k (V.i 0))⟩] [0, 1, 5])
   (.bl 0 (.seq (.seq (.reg none [⟨(some 11), none, .mv (.t 5)⟩,
        ⟨(some 12), none, .mv (.t 0)⟩,
        ⟨(some 13), none, .len false (.t 12)⟩,
        ⟨(some 14), none, .bin .lss .i (.t 11) (.t 13)⟩] [0, 1, 5, 14])
     (.cond (.t 14)
      (.skip)
      (.exit 0)))
    (.seq (.block 1 (.seq (.reg (some [[], [], [0, 1], [0, 1, 2], [], [], [4, 5], [4, 5, 6], [0, 1, 2, 3, 4, 5, 6, 7], [0, 1, 2, 3, 4, 5, 6, 7, 8]]) [⟨(some 17), none, .mv (.t 0)⟩,
         ⟨(some 18), none, .mv (.t 5)⟩,
         ⟨(some 19), none, .ia 3 (.t 17) (.t 18)⟩,
         ⟨(some 20), none, .ld true 3 (.t 19)⟩,
         ⟨(some 21), none, .mv (.t 1)⟩,
         ⟨(some 22), none, .mv (.t 5)⟩,
         ⟨(some 23), none, .ia 3 (.t 21) (.t 22)⟩,
         ⟨(some 24), none, .ld true 3 (.t 23)⟩,
         ⟨(some 25), none, .call 116 true [(.t 20), (.t 24)]⟩,
         ⟨(some 26), none, .not (.t 25)⟩] [0, 1, 5, 26])
      (.cond (.t 26)
       (.seq (.reg none [⟨(some 4), none, .mv (.k (V.b false))⟩] [4])
        (.ret))
       (.skip))))
    (.reg none [⟨(some 15), none, .mv (.t 5)⟩,
      ⟨(some 16), none, .bin .add .i (.t 15) (.k (V.i 1))⟩,
      ⟨(some 5), none, .mv (.t 16)⟩] [0, 1, 5])))))
  (.seq (.reg none [⟨(some 4), none, .mv (.k (V.b true))⟩] [4])
  (.ret))))
def rv83 : List RV := [.t 4]
/-- loop.example/g03014/laws.eqInlet -/
def ir117 : J :=
  .seq (.reg none [⟨(some 2), none, .box (.t 0)⟩,
     ⟨(some 3), none, .box (.t 1)⟩,
     ⟨(some 4), none, .mv (.k (V.b false))⟩] [2, 3])
  (.seq (.seq (.reg none [⟨(some 5), none, .fa 0 (.t 2)⟩,
      ⟨(some 6), none, .ld false 1 (.t 5)⟩,
      ⟨(some 7), none, .fa 0 (.t 3)⟩,
      ⟨(some 8), none, .ld false 1 (.t 7)⟩,
      ⟨(some 9), none, .bin .neq .i (.t 6) (.t 8)⟩] [2, 3, 9])
   (.cond (.t 9)
    (.seq (.reg none [⟨(some 4), none, .mv (.k (V.b false))⟩] [4])
     (.ret))
    (.skip)))
  (.seq (.seq (.reg none [⟨(some 10), none, .fa 1 (.t 2)⟩,
      ⟨(some 11), none, .ld false 1 (.t 10)⟩,
      ⟨(some 12), none, .fa 1 (.t 3)⟩,
      ⟨(some 13), none, .ld false 1 (.t 12)⟩,
      ⟨(some 14), none, .call 64 true [(.t 11), (.t 13)]⟩,
      ⟨(some 15), none, .not (.t 14)⟩] [15])
   (.cond (.t 15)
    (.seq (.reg none [⟨(some 4), none, .mv (.k (V.b false))⟩] [4])
     (.ret))
    (.skip)))
  (.seq (.reg none [⟨(some 4), none, .mv (.k (V.b true))⟩] [4])
  (.ret))))
def rv117 : List RV := [.t 4]
/-- loop.example/g03014/laws.eqInletS -/
def ir84 : J :=
  .seq (.reg none [⟨(some 4), none, .mv (.k (V.b false))⟩] [0, 1])
  (.seq (.seq (.reg none [⟨(some 6), none, .mv (.t 0)⟩,
      ⟨(some 7), none, .len false (.t 6)⟩,
      ⟨(some 8), none, .mv (.t 1)⟩,
      ⟨(some 9), none, .len false (.t 8)⟩,
      ⟨(some 10), none, .bin .neq .i (.t 7) (.t 9)⟩] [0, 1, 10])
   (.cond (.t 10)
    (.seq (.reg none [⟨(some 4), none, .mv (.k (V.b false))⟩] [4])
     (.ret))
    (.skip)))
  (.seq (.seq (.reg none [⟨(some 5), none, .mv (.k (V.i 0))⟩] [0, 1, 5])
   (.bl 0 (.seq (.seq (.reg none [⟨(some 11), none, .mv (.t 5)⟩,
        ⟨(some 12), none, .mv (.t 0)⟩,
        ⟨(some 13), none, .len false (.t 12)⟩,
        ⟨(some 14), none, .bin .lss .i (.t 11) (.t 13)⟩] [0, 1, 5, 14])
     (.cond (.t 14)
      (.skip)
      (.exit 0)))
    (.seq (.block 1 (.seq (.reg (some [[], [], [0, 1], [0, 1, 2], [], [], [4, 5], [4, 5, 6], [0, 1, 2, 3, 4, 5, 6, 7], [0, 1, 2, 3, 4, 5, 6, 7, 8]]) [⟨(some 17), none, .mv (.t 0)⟩,
         ⟨(some 18), none, .mv (.t 5)⟩,
         ⟨(some 19), none, .ia 2 (.t 17) (.t 18)⟩,
         ⟨(some 20), none, .ld true 2 (.t 19)⟩,
         ⟨(some 21), none, .mv (.t 1)⟩,
         ⟨(some 22), none, .mv (.t 5)⟩,
         ⟨(some 23), none, .ia 2 (.t 21) (.t 22)⟩,
         ⟨(some 24), none, .ld true 2 (.t 23)⟩,
         ⟨(some 25), none, .call 117 true [(.t 20), (.t 24)]⟩,
         ⟨(some 26), none, .not (.t 25)⟩] [0, 1, 5, 26])
      (.cond (.t 26)
       (.seq (.reg none [⟨(some 4), none, .mv (.k (V.b false))⟩] [4])
        (.ret))
       (.skip))))
    (.reg none [⟨(some 15), none, .mv (.t 5)⟩,
      ⟨(some 16), none, .bin .add .i (.t 15) (.k (V.i 1))⟩,
      ⟨(some 5), none, .mv (.t 16)⟩] [0, 1, 5])))))
  (.seq (.reg none [⟨(some 4), none, .mv (.k (V.b true))⟩] [4])
  (.ret))))
def rv84 : List RV := [.t 4]
/-- loop.example/g03014/laws.eqCentre -/
def ir28 : J :=
  .seq (.reg none [⟨(some 2), none, .box (.t 0)⟩,
     ⟨(some 3), none, .box (.t 1)⟩,
     ⟨(some 4), none, .mv (.k (V.b false))⟩] [2, 3])
  (.seq (.seq (.reg none [⟨(some 5), none, .fa 0 (.t 2)⟩,
      ⟨(some 6), none, .ld false 1 (.t 5)⟩,
      ⟨(some 7), none, .fa 0 (.t 3)⟩,
      ⟨(some 8), none, .ld false 1 (.t 7)⟩,
      ⟨(some 9), none, .call 64 true [(.t 6), (.t 8)]⟩,
      ⟨(some 10), none, .not (.t 9)⟩] [2, 3, 10])
   (.cond (.t 10)
    (.seq (.reg none [⟨(some 4), none, .mv (.k (V.b false))⟩] [4])
     (.ret))
    (.skip)))
  (.seq (.seq (.reg none [⟨(some 11), none, .fa 1 (.t 2)⟩,
      ⟨(some 12), none, .ld false 1 (.t 11)⟩,
      ⟨(some 13), none, .fa 1 (.t 3)⟩,
      ⟨(some 14), none, .ld false 1 (.t 13)⟩,
      ⟨(some 15), none, .call 83 true [(.t 12), (.t 14)]⟩,
      ⟨(some 16), none, .not (.t 15)⟩] [2, 3, 16])
   (.cond (.t 16)
    (.seq (.reg none [⟨(some 4), none, .mv (.k (V.b false))⟩] [4])
     (.ret))
    (.skip)))
  (.seq (.seq (.reg none [⟨(some 17), none, .fa 2 (.t 2)⟩,
      ⟨(some 18), none, .ld false 1 (.t 17)⟩,
      ⟨(some 19), none, .fa 2 (.t 3)⟩,
      ⟨(some 20), none, .ld false 1 (.t 19)⟩,
      ⟨(some 21), none, .call 84 true [(.t 18), (.t 20)]⟩,
      ⟨(some 22), none, .not (.t 21)⟩] [2, 3, 22])
   (.cond (.t 22)
    (.seq (.reg none [⟨(some 4), none, .mv (.k (V.b false))⟩] [4])
     (.ret))
    (.skip)))
  (.seq (.seq (.reg none [⟨(some 23), none, .fa 3 (.t 2)⟩,
      ⟨(some 24), none, .ld false 1 (.t 23)⟩,
      ⟨(some 25), none, .fa 3 (.t 3)⟩,
      ⟨(some 26), none, .ld false 1 (.t 25)⟩,
      ⟨(some 27), none, .call 47 true [(.t 24), (.t 26)]⟩,
      ⟨(some 28), none, .not (.t 27)⟩] [2, 3, 28])
   (.cond (.t 28)
    (.seq (.reg none [⟨(some 4), none, .mv (.k (V.b false))⟩] [4])
     (.ret))
    (.skip)))
  (.seq (.seq (.reg none [⟨(some 29), none, .fa 4 (.t 2)⟩,
      ⟨(some 30), none, .ld false 1 (.t 29)⟩,
      ⟨(some 31), none, .fa 4 (.t 3)⟩,
      ⟨(some 32), none, .ld false 1 (.t 31)⟩,
      ⟨(some 33), none, .bin .neq .i (.t 30) (.t 32)⟩] [33])
   (.cond (.t 33)
    (.seq (.reg none [⟨(some 4), none, .mv (.k (V.b false))⟩] [4])
     (.ret))
    (.skip)))
  (.seq (.reg none [⟨(some 4), none, .mv (.k (V.b true))⟩] [4])
  (.ret)))))))
def rv28 : List RV := [.t 4]
/-- loop.example/g03014/laws.FnExactCountWait -/
def ir3 : J :=
  .seq (.reg none [⟨(some 1), none, .box (.t 0)⟩,
     ⟨(some 2), none, .mv (.k (V.b false))⟩] [1])
  (.seq (.reg none [⟨(some 3), none, .mv (.k (V.i 1048576))⟩] [1, 3])
  (.seq (.reg none [⟨(some 7), none, .ld true 5 (.t 1)⟩,
     ⟨(some 8), none, .mv (.t 3)⟩,
     ⟨(some 9), none, .call 24 true [(.t 7), (.t 8)]⟩,
     ⟨(some 3), none, .mv (.t 9)⟩] [1, 3])
  (.seq (.seq (.reg none [⟨(some 10), none, .mv (.t 3)⟩,
      ⟨(some 11), none, .bin .lss .i (.t 10) (.k (V.i 0))⟩] [1, 11])
   (.cond (.t 11)
    (.seq (.reg none [⟨(some 2), none, .mv (.k (V.b true))⟩] [2])
     (.ret))
    (.skip)))
  (.seq (.reg none [⟨(some 12), none, .ld true 5 (.t 1)⟩,
     ⟨(some 13), none, .call 26 true [(.t 12)]⟩,
     ⟨(some 14), none, .call 25 true [(.t 13)]⟩,
     ⟨(some 4), none, .mv (.t 14)⟩] [1, 4])
  (.seq (.reg none [⟨(some 15), none, .ld true 5 (.t 1)⟩,
     ⟨(some 16), none, .call 26 true [(.t 15)]⟩,
     ⟨(some 5), none, .alloc [.n 2, .n 3, .n 2, .n 1, .r (.v (.int .i64 0))]⟩,
     ⟨none, none, .st 5 (.t 5) (.t 16)⟩] [1, 4, 5])
  (.seq (.reg none [⟨(some 17), none, .ld true 5 (.t 5)⟩,
     ⟨(some 18), none, .call 27 true [(.t 17)]⟩,
     ⟨(some 6), none, .mv (.t 18)⟩] [1, 4, 5, 6])
  (.seq (.seq (.reg none [⟨(some 19), none, .mv (.t 6)⟩,
      ⟨(some 20), none, .mv (.t 4)⟩,
      ⟨(some 21), none, .bin .neq .i (.t 19) (.t 20)⟩] [1, 5, 21])
   (.cond (.t 21)
    (.seq (.reg none [⟨(some 2), none, .mv (.k (V.b false))⟩] [2])
     (.ret))
    (.skip)))
  (.seq (.seq (.reg (some [[], [], [1], [0, 1, 2], [0, 1, 2, 3]]) [⟨(some 22), none, .ld true 5 (.t 5)⟩,
      ⟨(some 23), none, .ld true 5 (.t 1)⟩,
      ⟨(some 24), none, .call 26 true [(.t 23)]⟩,
      ⟨(some 25), none, .call 28 true [(.t 22), (.t 24)]⟩,
      ⟨(some 26), none, .not (.t 25)⟩] [26])
   (.cond (.t 26)
    (.seq (.reg none [⟨(some 2), none, .mv (.k (V.b false))⟩] [2])
     (.ret))
    (.skip)))
  (.seq (.reg none [⟨(some 2), none, .mv (.k (V.b true))⟩] [2])
  (.ret))))))))))
def rv3 : List RV := [.t 2]
/-- loop.example/g03014/spec.CountBelt -/
def ir29 : J :=
  .seq (.reg none [⟨(some 1), none, .box (.t 0)⟩,
     ⟨(some 2), none, .mv (.k (V.i 0))⟩] [1])
  (.seq (.reg none [⟨(some 3), none, .mv (.k (V.i 0))⟩] [1, 3])
  (.seq (.seq (.reg none [⟨(some 4), none, .mv (.k (V.i 0))⟩] [1, 3, 4])
   (.bl 0 (.seq (.seq (.reg none [⟨(some 5), none, .mv (.t 4)⟩,
        ⟨(some 6), none, .fa 0 (.t 1)⟩,
        ⟨(some 7), none, .ld false 1 (.t 6)⟩,
        ⟨(some 8), none, .len false (.t 7)⟩,
        ⟨(some 9), none, .bin .lss .i (.t 5) (.t 8)⟩] [1, 3, 4, 9])
     (.cond (.t 9)
      (.skip)
      (.exit 0)))
    (.seq (.block 1 (.seq (.reg none [⟨(some 12), none, .fa 0 (.t 1)⟩,
         ⟨(some 13), none, .ld false 1 (.t 12)⟩,
         ⟨(some 14), none, .mv (.t 4)⟩,
         ⟨(some 15), none, .ia 2 (.t 13) (.t 14)⟩,
         ⟨(some 16), none, .fa 0 (.t 15)⟩,
         ⟨(some 17), none, .ld false 1 (.t 16)⟩,
         ⟨(some 18), none, .bin .neq .i (.t 17) (.k (V.i 0))⟩] [1, 3, 4, 18])
      (.cond (.t 18)
       (.reg none [⟨(some 19), none, .mv (.t 3)⟩,
          ⟨(some 20), none, .bin .add .i (.t 19) (.k (V.i 1))⟩,
          ⟨(some 3), none, .mv (.t 20)⟩] [1, 3, 4])
       (.skip))))
    (.reg none [⟨(some 10), none, .mv (.t 4)⟩,
      ⟨(some 11), none, .bin .add .i (.t 10) (.k (V.i 1))⟩,
      ⟨(some 4), none, .mv (.t 11)⟩] [1, 3, 4])))))
  (.seq (.reg none [⟨(some 21), none, .mv (.t 3)⟩,
     ⟨(some 2), none, .mv (.t 21)⟩] [2])
  (.ret))))
def rv29 : List RV := [.t 2]
/-- loop.example/g03014/impl.CountBelt -/
def ir30 : J :=
  .seq (.reg none [⟨(some 1), none, .box (.t 0)⟩,
     ⟨(some 2), none, .mv (.k (V.i 0))⟩] [1])
  (.seq (.reg none [⟨(some 3), none, .mv (.k (V.i 0))⟩] [1, 3])
  (.seq (.seq (.reg none [⟨(some 6), none, .fa 0 (.t 1)⟩,
      ⟨(some 7), none, .ld false 1 (.t 6)⟩,
      ⟨(some 8), none, .len false (.t 7)⟩,
      ⟨(some 9), none, .mv (.k (V.i 0))⟩] [3, 7, 8, 9])
   (.bl 0 (.seq (.reg none [⟨(some 10), none, .bin .lss .i (.t 9) (.t 8)⟩] [3, 7, 8, 9, 10])
    (.seq (.cond (.t 10)
      (.skip)
      (.exit 0))
    (.seq (.block 1 (.seq (.reg none [⟨(some 11), none, .ia 2 (.t 7) (.t 9)⟩,
         ⟨(some 12), none, .ld true 2 (.t 11)⟩,
         ⟨(some 5), none, .alloc [.r (.v (.int .i64 0)), .r (.v (.int .i64 0))]⟩,
         ⟨none, none, .st 2 (.t 5) (.t 12)⟩] [3, 5, 7, 8, 9])
      (.seq (.reg none [⟨(some 13), none, .fa 0 (.t 5)⟩,
         ⟨(some 14), none, .ld false 1 (.t 13)⟩,
         ⟨(some 15), none, .bin .neq .i (.t 14) (.k (V.i 0))⟩] [3, 7, 8, 9, 15])
      (.cond (.t 15)
       (.reg none [⟨(some 16), none, .mv (.t 3)⟩,
          ⟨(some 17), none, .bin .add .i (.t 16) (.k (V.i 1))⟩,
          ⟨(some 3), none, .mv (.t 17)⟩] [3, 7, 8, 9])
       (.skip)))))
    (.reg none [⟨(some 18), none, .bin .add .i (.t 9) (.k (V.i 1))⟩,
      ⟨(some 9), none, .mv (.t 18)⟩] [3, 7, 8, 9]))))))
  (.seq (.reg none [⟨(some 19), none, .mv (.t 3)⟩,
     ⟨(some 2), none, .mv (.t 19)⟩] [2])
  (.ret))))
def rv30 : List RV := [.t 2]
/-- loop.example/g03014/laws.FnExactCountBelt -/
def ir4 : J :=
  .seq (.reg none [⟨(some 1), none, .box (.t 0)⟩,
     ⟨(some 2), none, .mv (.k (V.b false))⟩] [1])
  (.seq (.reg none [⟨(some 3), none, .mv (.k (V.i 1048576))⟩] [1, 3])
  (.seq (.reg none [⟨(some 7), none, .ld true 5 (.t 1)⟩,
     ⟨(some 8), none, .mv (.t 3)⟩,
     ⟨(some 9), none, .call 24 true [(.t 7), (.t 8)]⟩,
     ⟨(some 3), none, .mv (.t 9)⟩] [1, 3])
  (.seq (.seq (.reg none [⟨(some 10), none, .mv (.t 3)⟩,
      ⟨(some 11), none, .bin .lss .i (.t 10) (.k (V.i 0))⟩] [1, 11])
   (.cond (.t 11)
    (.seq (.reg none [⟨(some 2), none, .mv (.k (V.b true))⟩] [2])
     (.ret))
    (.skip)))
  (.seq (.reg none [⟨(some 12), none, .ld true 5 (.t 1)⟩,
     ⟨(some 13), none, .call 26 true [(.t 12)]⟩,
     ⟨(some 14), none, .call 29 true [(.t 13)]⟩,
     ⟨(some 4), none, .mv (.t 14)⟩] [1, 4])
  (.seq (.reg none [⟨(some 15), none, .ld true 5 (.t 1)⟩,
     ⟨(some 16), none, .call 26 true [(.t 15)]⟩,
     ⟨(some 5), none, .alloc [.n 2, .n 3, .n 2, .n 1, .r (.v (.int .i64 0))]⟩,
     ⟨none, none, .st 5 (.t 5) (.t 16)⟩] [1, 4, 5])
  (.seq (.reg none [⟨(some 17), none, .ld true 5 (.t 5)⟩,
     ⟨(some 18), none, .call 30 true [(.t 17)]⟩,
     ⟨(some 6), none, .mv (.t 18)⟩] [1, 4, 5, 6])
  (.seq (.seq (.reg none [⟨(some 19), none, .mv (.t 6)⟩,
      ⟨(some 20), none, .mv (.t 4)⟩,
      ⟨(some 21), none, .bin .neq .i (.t 19) (.t 20)⟩] [1, 5, 21])
   (.cond (.t 21)
    (.seq (.reg none [⟨(some 2), none, .mv (.k (V.b false))⟩] [2])
     (.ret))
    (.skip)))
  (.seq (.seq (.reg (some [[], [], [1], [0, 1, 2], [0, 1, 2, 3]]) [⟨(some 22), none, .ld true 5 (.t 5)⟩,
      ⟨(some 23), none, .ld true 5 (.t 1)⟩,
      ⟨(some 24), none, .call 26 true [(.t 23)]⟩,
      ⟨(some 25), none, .call 28 true [(.t 22), (.t 24)]⟩,
      ⟨(some 26), none, .not (.t 25)⟩] [26])
   (.cond (.t 26)
    (.seq (.reg none [⟨(some 2), none, .mv (.k (V.b false))⟩] [2])
     (.ret))
    (.skip)))
  (.seq (.reg none [⟨(some 2), none, .mv (.k (V.b true))⟩] [2])
  (.ret))))))))))
def rv4 : List RV := [.t 2]
/-- loop.example/g03014/spec.l1In -/
def ir85 : J :=
  .seq (.reg none [⟨(some 6), none, .mv (.k (V.b false))⟩] [0, 1, 2])
  (.seq (.reg none [⟨(some 7), none, .mv (.t 0)⟩,
     ⟨(some 8), none, .mv (.t 1)⟩,
     ⟨(some 9), none, .bin .geq .i (.t 7) (.t 8)⟩,
     ⟨(some 10), none, .mv (.t 9)⟩,
     ⟨(some 11), (some (10, true)), .mv (.t 0)⟩,
     ⟨(some 12), (some (10, true)), .mv (.t 2)⟩,
     ⟨(some 13), (some (10, true)), .bin .leq .i (.t 11) (.t 12)⟩,
     ⟨(some 14), none, .pick (.t 10) (.t 13) (.k (V.b false))⟩,
     ⟨(some 6), none, .mv (.t 14)⟩] [6])
  (.ret))
def rv85 : List RV := [.t 6]
/-- loop.example/g03014/spec.l7Parts -/
def ir86 : J :=
  .seq (.reg none [⟨(some 1), none, .box (.t 0)⟩,
     ⟨(some 2), none, .mv (.k (V.b false))⟩] [1])
  (.seq (.seq (.reg none [⟨(some 3), none, .mv (.k (V.i 0))⟩] [1, 3])
   (.bl 0 (.seq (.seq (.reg none [⟨(some 10), none, .mv (.t 3)⟩,
        ⟨(some 11), none, .fa 1 (.t 1)⟩,
        ⟨(some 12), none, .ld false 1 (.t 11)⟩,
        ⟨(some 13), none, .len false (.t 12)⟩,
        ⟨(some 14), none, .bin .lss .i (.t 10) (.t 13)⟩] [1, 3, 14])
     (.cond (.t 14)
      (.skip)
      (.exit 0)))
    (.seq (.block 1 (.seq (.reg none [⟨(some 17), none, .fa 1 (.t 1)⟩,
         ⟨(some 18), none, .ld false 1 (.t 17)⟩,
         ⟨(some 19), none, .mv (.t 3)⟩,
         ⟨(some 20), none, .ia 3 (.t 18) (.t 19)⟩,
         ⟨(some 21), none, .ld true 3 (.t 20)⟩,
         ⟨(some 4), none, .alloc [.r (.v (.int .i64 0)), .r (.v (.int .i64 0)), .n 2]⟩,
         ⟨none, none, .st 3 (.t 4) (.t 21)⟩] [1, 3, 4])
      (.seq (.seq (.reg none [⟨(some 22), none, .fa 0 (.t 4)⟩,
          ⟨(some 23), none, .ld false 1 (.t 22)⟩,
          ⟨(some 24), none, .fa 0 (.t 1)⟩,
          ⟨(some 25), none, .ld false 1 (.t 24)⟩,
          ⟨(some 26), none, .len false (.t 25)⟩,
          ⟨(some 27), none, .bin .sub .i (.t 26) (.k (V.i 1))⟩,
          ⟨(some 28), none, .call 85 true [(.t 23), (.k (V.i 0)), (.t 27)]⟩,
          ⟨(some 29), none, .not (.t 28)⟩,
          ⟨(some 30), none, .mv (.t 29)⟩,
          ⟨(some 31), (some (30, false)), .fa 1 (.t 4)⟩,
          ⟨(some 32), (some (30, false)), .ld false 1 (.t 31)⟩,
          ⟨(some 33), (some (30, false)), .call 85 true [(.t 32), (.k (V.i 1)), (.k (V.i 20))]⟩,
          ⟨(some 34), (some (30, false)), .not (.t 33)⟩,
          ⟨(some 35), none, .pick (.t 30) (.k (V.b true)) (.t 34)⟩,
          ⟨(some 36), none, .mv (.t 35)⟩,
          ⟨(some 37), (some (36, false)), .fa 2 (.t 4)⟩,
          ⟨(some 38), (some (36, false)), .ld false 1 (.t 37)⟩,
          ⟨(some 39), (some (36, false)), .len false (.t 38)⟩,
          ⟨(some 40), (some (36, false)), .fa 1 (.t 4)⟩,
          ⟨(some 41), (some (36, false)), .ld false 1 (.t 40)⟩,
          ⟨(some 42), (some (36, false)), .bin .gtr .i (.t 39) (.t 41)⟩,
          ⟨(some 43), none, .pick (.t 36) (.k (V.b true)) (.t 42)⟩] [1, 3, 4, 43])
       (.cond (.t 43)
        (.seq (.reg none [⟨(some 2), none, .mv (.k (V.b false))⟩] [2])
         (.ret))
        (.skip)))
      (.seq (.reg none [⟨(some 5), none, .mv (.k (V.i 0))⟩] [1, 3, 4, 5])
      (.bl 2 (.seq (.seq (.reg none [⟨(some 44), none, .mv (.t 5)⟩,
           ⟨(some 45), none, .mv (.t 3)⟩,
           ⟨(some 46), none, .bin .lss .i (.t 44) (.t 45)⟩] [1, 3, 4, 5, 46])
        (.cond (.t 46)
         (.skip)
         (.exit 2)))
       (.seq (.block 3 (.seq (.reg (some [[], [0], [], [0, 1, 2], [0, 1, 2, 3], [0, 1, 2, 3, 4], [], [6], [0, 1, 2, 3, 4, 5, 6, 7]]) [⟨(some 49), none, .fa 1 (.t 1)⟩,
            ⟨(some 50), none, .ld false 1 (.t 49)⟩,
            ⟨(some 51), none, .mv (.t 5)⟩,
            ⟨(some 52), none, .ia 3 (.t 50) (.t 51)⟩,
            ⟨(some 53), none, .fa 0 (.t 52)⟩,
            ⟨(some 54), none, .ld false 1 (.t 53)⟩,
            ⟨(some 55), none, .fa 0 (.t 4)⟩,
            ⟨(some 56), none, .ld false 1 (.t 55)⟩,
            ⟨(some 57), none, .bin .eql .i (.t 54) (.t 56)⟩] [1, 3, 4, 5, 57])
         (.cond (.t 57)
          (.seq (.reg none [⟨(some 2), none, .mv (.k (V.b false))⟩] [2])
           (.ret))
          (.skip))))
       (.reg none [⟨(some 47), none, .mv (.t 5)⟩,
         ⟨(some 48), none, .bin .add .i (.t 47) (.k (V.i 1))⟩,
         ⟨(some 5), none, .mv (.t 48)⟩] [1, 3, 4, 5]))))))))
    (.reg none [⟨(some 15), none, .mv (.t 3)⟩,
      ⟨(some 16), none, .bin .add .i (.t 15) (.k (V.i 1))⟩,
      ⟨(some 3), none, .mv (.t 16)⟩] [1, 3])))))
  (.seq (.seq (.reg none [⟨(some 6), none, .mv (.k (V.i 0))⟩] [1, 6])
   (.bl 4 (.seq (.seq (.reg none [⟨(some 58), none, .mv (.t 6)⟩,
        ⟨(some 59), none, .fa 2 (.t 1)⟩,
        ⟨(some 60), none, .ld false 1 (.t 59)⟩,
        ⟨(some 61), none, .len false (.t 60)⟩,
        ⟨(some 62), none, .bin .lss .i (.t 58) (.t 61)⟩] [1, 6, 62])
     (.cond (.t 62)
      (.skip)
      (.exit 4)))
    (.seq (.block 5 (.seq (.reg none [⟨(some 65), none, .fa 2 (.t 1)⟩,
         ⟨(some 66), none, .ld false 1 (.t 65)⟩,
         ⟨(some 67), none, .mv (.t 6)⟩,
         ⟨(some 68), none, .ia 2 (.t 66) (.t 67)⟩,
         ⟨(some 69), none, .ld true 2 (.t 68)⟩,
         ⟨(some 7), none, .alloc [.r (.v (.int .i64 0)), .n 2]⟩,
         ⟨none, none, .st 2 (.t 7) (.t 69)⟩] [1, 6, 7])
      (.seq (.seq (.reg none [⟨(some 70), none, .fa 0 (.t 7)⟩,
          ⟨(some 71), none, .ld false 1 (.t 70)⟩,
          ⟨(some 72), none, .fa 0 (.t 1)⟩,
          ⟨(some 73), none, .ld false 1 (.t 72)⟩,
          ⟨(some 74), none, .len false (.t 73)⟩,
          ⟨(some 75), none, .bin .sub .i (.t 74) (.k (V.i 1))⟩,
          ⟨(some 76), none, .call 85 true [(.t 71), (.k (V.i 0)), (.t 75)]⟩,
          ⟨(some 77), none, .not (.t 76)⟩,
          ⟨(some 78), none, .mv (.t 77)⟩,
          ⟨(some 79), (some (78, false)), .fa 1 (.t 7)⟩,
          ⟨(some 80), (some (78, false)), .ld false 1 (.t 79)⟩,
          ⟨(some 81), (some (78, false)), .len false (.t 80)⟩,
          ⟨(some 82), (some (78, false)), .bin .gtr .i (.t 81) (.k (V.i 20))⟩,
          ⟨(some 83), none, .pick (.t 78) (.k (V.b true)) (.t 82)⟩] [1, 6, 7, 83])
       (.cond (.t 83)
        (.seq (.reg none [⟨(some 2), none, .mv (.k (V.b false))⟩] [2])
         (.ret))
        (.skip)))
      (.seq (.reg none [⟨(some 8), none, .mv (.k (V.i 0))⟩] [1, 6, 7, 8])
      (.bl 6 (.seq (.seq (.reg none [⟨(some 84), none, .mv (.t 8)⟩,
           ⟨(some 85), none, .mv (.t 6)⟩,
           ⟨(some 86), none, .bin .lss .i (.t 84) (.t 85)⟩] [1, 6, 7, 8, 86])
        (.cond (.t 86)
         (.skip)
         (.exit 6)))
       (.seq (.block 7 (.seq (.reg (some [[], [0], [], [0, 1, 2], [0, 1, 2, 3], [0, 1, 2, 3, 4], [], [6], [0, 1, 2, 3, 4, 5, 6, 7]]) [⟨(some 89), none, .fa 2 (.t 1)⟩,
            ⟨(some 90), none, .ld false 1 (.t 89)⟩,
            ⟨(some 91), none, .mv (.t 8)⟩,
            ⟨(some 92), none, .ia 2 (.t 90) (.t 91)⟩,
            ⟨(some 93), none, .fa 0 (.t 92)⟩,
            ⟨(some 94), none, .ld false 1 (.t 93)⟩,
            ⟨(some 95), none, .fa 0 (.t 7)⟩,
            ⟨(some 96), none, .ld false 1 (.t 95)⟩,
            ⟨(some 97), none, .bin .eql .i (.t 94) (.t 96)⟩] [1, 6, 7, 8, 97])
         (.cond (.t 97)
          (.seq (.reg none [⟨(some 2), none, .mv (.k (V.b false))⟩] [2])
           (.ret))
          (.skip))))
       (.reg none [⟨(some 87), none, .mv (.t 8)⟩,
         ⟨(some 88), none, .bin .add .i (.t 87) (.k (V.i 1))⟩,
         ⟨(some 8), none, .mv (.t 88)⟩] [1, 6, 7, 8]))))))))
    (.reg none [⟨(some 63), none, .mv (.t 6)⟩,
      ⟨(some 64), none, .bin .add .i (.t 63) (.k (V.i 1))⟩,
      ⟨(some 6), none, .mv (.t 64)⟩] [1, 6])))))
  (.seq (.seq (.reg none [⟨(some 9), none, .mv (.k (V.i 0))⟩] [1, 9])
   (.bl 8 (.seq (.seq (.reg none [⟨(some 98), none, .mv (.t 9)⟩,
        ⟨(some 99), none, .fa 3 (.t 1)⟩,
        ⟨(some 100), none, .ld false 1 (.t 99)⟩,
        ⟨(some 101), none, .len false (.t 100)⟩,
        ⟨(some 102), none, .bin .lss .i (.t 98) (.t 101)⟩] [1, 9, 102])
     (.cond (.t 102)
      (.skip)
      (.exit 8)))
    (.seq (.block 9 (.seq (.reg (some [[], [0], [], [0, 1, 2], [0, 1, 2, 3], [], [5], [5, 6], [5, 6, 7], [0, 1, 2, 3, 4, 5, 6, 7, 8], [0, 1, 2, 3, 4, 5, 6, 7, 8, 9]]) [⟨(some 105), none, .fa 3 (.t 1)⟩,
         ⟨(some 106), none, .ld false 1 (.t 105)⟩,
         ⟨(some 107), none, .mv (.t 9)⟩,
         ⟨(some 108), none, .ia 1 (.t 106) (.t 107)⟩,
         ⟨(some 109), none, .ld false 1 (.t 108)⟩,
         ⟨(some 110), none, .fa 1 (.t 1)⟩,
         ⟨(some 111), none, .ld false 1 (.t 110)⟩,
         ⟨(some 112), none, .len false (.t 111)⟩,
         ⟨(some 113), none, .bin .sub .i (.t 112) (.k (V.i 1))⟩,
         ⟨(some 114), none, .call 85 true [(.t 109), (.k (V.i 0)), (.t 113)]⟩,
         ⟨(some 115), none, .not (.t 114)⟩] [1, 9, 115])
      (.cond (.t 115)
       (.seq (.reg none [⟨(some 2), none, .mv (.k (V.b false))⟩] [2])
        (.ret))
       (.skip))))
    (.reg none [⟨(some 103), none, .mv (.t 9)⟩,
      ⟨(some 104), none, .bin .add .i (.t 103) (.k (V.i 1))⟩,
      ⟨(some 9), none, .mv (.t 104)⟩] [1, 9])))))
  (.seq (.reg none [⟨(some 116), none, .fa 1 (.t 1)⟩,
     ⟨(some 117), none, .ld false 1 (.t 116)⟩,
     ⟨(some 118), none, .len false (.t 117)⟩,
     ⟨(some 119), none, .call 85 true [(.t 118), (.k (V.i 1)), (.k (V.i 6))]⟩,
     ⟨(some 120), none, .mv (.t 119)⟩,
     ⟨(some 121), (some (120, true)), .fa 2 (.t 1)⟩,
     ⟨(some 122), (some (120, true)), .ld false 1 (.t 121)⟩,
     ⟨(some 123), (some (120, true)), .len false (.t 122)⟩,
     ⟨(some 124), (some (120, true)), .call 85 true [(.t 123), (.k (V.i 1)), (.k (V.i 4))]⟩,
     ⟨(some 125), none, .pick (.t 120) (.t 124) (.k (V.b false))⟩,
     ⟨(some 126), none, .mv (.t 125)⟩,
     ⟨(some 127), (some (126, true)), .fa 3 (.t 1)⟩,
     ⟨(some 128), (some (126, true)), .ld false 1 (.t 127)⟩,
     ⟨(some 129), (some (126, true)), .len false (.t 128)⟩,
     ⟨(some 130), (some (126, true)), .call 85 true [(.t 129), (.k (V.i 1)), (.k (V.i 8))]⟩,
     ⟨(some 131), none, .pick (.t 126) (.t 130) (.k (V.b false))⟩,
     ⟨(some 2), none, .mv (.t 131)⟩] [2])
  (.ret)))))
def rv86 : List RV := [.t 2]
/-- loop.example/g03014/spec.l7All -/
def ir87 : J :=
  .seq (.reg none [⟨(some 1), none, .box (.t 0)⟩,
     ⟨(some 2), none, .mv (.k (.c (.n 2)))⟩] [1])
  (.seq (.reg none [⟨(some 7), none, .bsl 2 []⟩,
     ⟨(some 3), none, .mv (.t 7)⟩] [1, 3])
  (.seq (.seq (.reg none [⟨(some 4), none, .mv (.k (V.i 0))⟩] [1, 3, 4])
   (.bl 0 (.seq (.seq (.reg none [⟨(some 8), none, .mv (.t 4)⟩,
        ⟨(some 9), none, .fa 0 (.t 1)⟩,
        ⟨(some 10), none, .ld false 1 (.t 9)⟩,
        ⟨(some 11), none, .len false (.t 10)⟩,
        ⟨(some 12), none, .bin .lss .i (.t 8) (.t 11)⟩] [1, 3, 4, 12])
     (.cond (.t 12)
      (.skip)
      (.exit 0)))
    (.seq (.block 1 (.seq (.reg none [⟨(some 15), none, .fa 0 (.t 1)⟩,
         ⟨(some 16), none, .ld false 1 (.t 15)⟩,
         ⟨(some 17), none, .mv (.t 4)⟩,
         ⟨(some 18), none, .ia 2 (.t 16) (.t 17)⟩,
         ⟨(some 19), none, .fa 0 (.t 18)⟩,
         ⟨(some 20), none, .ld false 1 (.t 19)⟩,
         ⟨(some 21), none, .bin .neq .i (.t 20) (.k (V.i 0))⟩,
         ⟨(some 22), none, .mv (.t 21)⟩,
         ⟨(some 23), (some (22, false)), .fa 0 (.t 1)⟩,
         ⟨(some 24), (some (22, false)), .ld false 1 (.t 23)⟩,
         ⟨(some 25), (some (22, false)), .mv (.t 4)⟩,
         ⟨(some 26), (some (22, false)), .ia 2 (.t 24) (.t 25)⟩,
         ⟨(some 27), (some (22, false)), .fa 1 (.t 26)⟩,
         ⟨(some 28), (some (22, false)), .ld false 1 (.t 27)⟩,
         ⟨(some 29), (some (22, false)), .bin .neq .i (.t 28) (.k (V.i 0))⟩,
         ⟨(some 30), none, .pick (.t 22) (.k (V.b true)) (.t 29)⟩] [1, 3, 4, 30])
      (.cond (.t 30)
       (.reg none [⟨(some 31), none, .mv (.t 3)⟩,
          ⟨(some 32), none, .fa 0 (.t 1)⟩,
          ⟨(some 33), none, .ld false 1 (.t 32)⟩,
          ⟨(some 34), none, .mv (.t 4)⟩,
          ⟨(some 35), none, .ia 2 (.t 33) (.t 34)⟩,
          ⟨(some 36), none, .ld true 2 (.t 35)⟩,
          ⟨(some 37), none, .bsl 2 [(.t 36)]⟩,
          ⟨(some 38), none, .app 2 16 true (.t 31) (.t 37)⟩,
          ⟨(some 3), none, .mv (.t 38)⟩] [1, 3, 4])
       (.skip))))
    (.reg none [⟨(some 13), none, .mv (.t 4)⟩,
      ⟨(some 14), none, .bin .add .i (.t 13) (.k (V.i 1))⟩,
      ⟨(some 4), none, .mv (.t 14)⟩] [1, 3, 4])))))
  (.seq (.seq (.reg none [⟨(some 5), none, .mv (.k (V.i 0))⟩] [1, 3, 5])
   (.bl 2 (.seq (.seq (.reg none [⟨(some 39), none, .mv (.t 5)⟩,
        ⟨(some 40), none, .fa 1 (.t 1)⟩,
        ⟨(some 41), none, .ld false 1 (.t 40)⟩,
        ⟨(some 42), none, .len false (.t 41)⟩,
        ⟨(some 43), none, .bin .lss .i (.t 39) (.t 42)⟩] [1, 3, 5, 43])
     (.cond (.t 43)
      (.skip)
      (.exit 2)))
    (.seq (.block 3 (.reg none [⟨(some 46), none, .mv (.t 3)⟩,
        ⟨(some 47), none, .fa 1 (.t 1)⟩,
        ⟨(some 48), none, .ld false 1 (.t 47)⟩,
        ⟨(some 49), none, .mv (.t 5)⟩,
        ⟨(some 50), none, .ia 3 (.t 48) (.t 49)⟩,
        ⟨(some 51), none, .fa 2 (.t 50)⟩,
        ⟨(some 52), none, .ld false 1 (.t 51)⟩,
        ⟨(some 53), none, .app 2 16 false (.t 46) (.t 52)⟩,
        ⟨(some 3), none, .mv (.t 53)⟩] [1, 3, 5]))
    (.reg none [⟨(some 44), none, .mv (.t 5)⟩,
      ⟨(some 45), none, .bin .add .i (.t 44) (.k (V.i 1))⟩,
      ⟨(some 5), none, .mv (.t 45)⟩] [1, 3, 5])))))
  (.seq (.seq (.reg none [⟨(some 6), none, .mv (.k (V.i 0))⟩] [1, 3, 6])
   (.bl 4 (.seq (.seq (.reg none [⟨(some 54), none, .mv (.t 6)⟩,
        ⟨(some 55), none, .fa 2 (.t 1)⟩,
        ⟨(some 56), none, .ld false 1 (.t 55)⟩,
        ⟨(some 57), none, .len false (.t 56)⟩,
        ⟨(some 58), none, .bin .lss .i (.t 54) (.t 57)⟩] [1, 3, 6, 58])
     (.cond (.t 58)
      (.skip)
      (.exit 4)))
    (.seq (.block 5 (.reg none [⟨(some 61), none, .mv (.t 3)⟩,
        ⟨(some 62), none, .fa 2 (.t 1)⟩,
        ⟨(some 63), none, .ld false 1 (.t 62)⟩,
        ⟨(some 64), none, .mv (.t 6)⟩,
        ⟨(some 65), none, .ia 2 (.t 63) (.t 64)⟩,
        ⟨(some 66), none, .fa 1 (.t 65)⟩,
        ⟨(some 67), none, .ld false 1 (.t 66)⟩,
        ⟨(some 68), none, .app 2 16 false (.t 61) (.t 67)⟩,
        ⟨(some 3), none, .mv (.t 68)⟩] [1, 3, 6]))
    (.reg none [⟨(some 59), none, .mv (.t 6)⟩,
      ⟨(some 60), none, .bin .add .i (.t 59) (.k (V.i 1))⟩,
      ⟨(some 6), none, .mv (.t 60)⟩] [1, 3, 6])))))
  (.seq (.reg none [⟨(some 69), none, .mv (.t 3)⟩,
     ⟨(some 2), none, .mv (.t 69)⟩] [2])
  (.ret))))))
def rv87 : List RV := [.t 2]
/-- loop.example/g03014/spec.l7Item -/
def ir88 : J :=
  .seq (.reg none [⟨(some 2), none, .box (.t 0)⟩,
     ⟨(some 4), none, .mv (.k (V.b false))⟩] [1, 2])
  (.seq (.reg none [⟨(some 5), none, .fa 0 (.t 2)⟩,
     ⟨(some 6), none, .ld false 1 (.t 5)⟩,
     ⟨(some 7), none, .call 85 true [(.t 6), (.k (V.i 1)), (.k (V.i 9999))]⟩,
     ⟨(some 8), none, .mv (.t 7)⟩,
     ⟨(some 9), (some (8, true)), .fa 1 (.t 2)⟩,
     ⟨(some 10), (some (8, true)), .ld false 1 (.t 9)⟩,
     ⟨(some 11), (some (8, true)), .mv (.t 1)⟩,
     ⟨(some 12), (some (8, true)), .len false (.t 11)⟩,
     ⟨(some 13), (some (8, true)), .bin .sub .i (.t 12) (.k (V.i 1))⟩,
     ⟨(some 14), (some (8, true)), .call 85 true [(.t 10), (.k (V.i 0)), (.t 13)]⟩,
     ⟨(some 15), none, .pick (.t 8) (.t 14) (.k (V.b false))⟩,
     ⟨(some 4), none, .mv (.t 15)⟩] [4])
  (.ret))
def rv88 : List RV := [.t 4]
/-- loop.example/g03014/spec.IsCentre -/
def ir31 : J :=
  .seq (.reg none [⟨(some 1), none, .box (.t 0)⟩,
     ⟨(some 2), none, .mv (.k (V.b false))⟩] [1])
  (.seq (.seq (.reg none [⟨(some 6), none, .fa 0 (.t 1)⟩,
      ⟨(some 7), none, .ld false 1 (.t 6)⟩,
      ⟨(some 8), none, .len false (.t 7)⟩,
      ⟨(some 9), none, .call 85 true [(.t 8), (.k (V.i 2)), (.k (V.i 24))]⟩,
      ⟨(some 10), none, .not (.t 9)⟩,
      ⟨(some 11), none, .mv (.t 10)⟩,
      ⟨(some 12), (some (11, false)), .ld true 5 (.t 1)⟩,
      ⟨(some 13), (some (11, false)), .call 86 true [(.t 12)]⟩,
      ⟨(some 14), (some (11, false)), .not (.t 13)⟩,
      ⟨(some 15), none, .pick (.t 11) (.k (V.b true)) (.t 14)⟩,
      ⟨(some 16), none, .mv (.t 15)⟩,
      ⟨(some 17), (some (16, false)), .fa 4 (.t 1)⟩,
      ⟨(some 18), (some (16, false)), .ld false 1 (.t 17)⟩,
      ⟨(some 19), (some (16, false)), .call 85 true [(.t 18), (.k (V.i 0)), (.k (V.i 100000))]⟩,
      ⟨(some 20), (some (16, false)), .not (.t 19)⟩,
      ⟨(some 21), none, .pick (.t 16) (.k (V.b true)) (.t 20)⟩] [1, 21])
   (.cond (.t 21)
    (.seq (.reg none [⟨(some 2), none, .mv (.k (V.b false))⟩] [2])
     (.ret))
    (.skip)))
  (.seq (.reg none [⟨(some 22), none, .ld true 5 (.t 1)⟩,
     ⟨(some 23), none, .call 87 true [(.t 22)]⟩,
     ⟨(some 3), none, .mv (.t 23)⟩] [1, 3])
  (.seq (.seq (.reg none [⟨(some 4), none, .mv (.k (V.i 0))⟩] [1, 3, 4])
   (.bl 0 (.seq (.seq (.reg none [⟨(some 24), none, .mv (.t 4)⟩,
        ⟨(some 25), none, .mv (.t 3)⟩,
        ⟨(some 26), none, .len false (.t 25)⟩,
        ⟨(some 27), none, .bin .lss .i (.t 24) (.t 26)⟩] [1, 3, 4, 27])
     (.cond (.t 27)
      (.skip)
      (.exit 0)))
    (.seq (.block 1 (.seq (.seq (.reg (some [[], [], [0, 1], [0, 1, 2], [], [4], [0, 1, 2, 3, 4, 5], [0, 1, 2, 3, 4, 5, 6]]) [⟨(some 30), none, .mv (.t 3)⟩,
          ⟨(some 31), none, .mv (.t 4)⟩,
          ⟨(some 32), none, .ia 2 (.t 30) (.t 31)⟩,
          ⟨(some 33), none, .ld true 2 (.t 32)⟩,
          ⟨(some 34), none, .fa 3 (.t 1)⟩,
          ⟨(some 35), none, .ld false 1 (.t 34)⟩,
          ⟨(some 36), none, .call 88 true [(.t 33), (.t 35)]⟩,
          ⟨(some 37), none, .not (.t 36)⟩] [1, 3, 4, 37])
       (.cond (.t 37)
        (.seq (.reg none [⟨(some 2), none, .mv (.k (V.b false))⟩] [2])
         (.ret))
        (.skip)))
      (.seq (.reg none [⟨(some 5), none, .mv (.k (V.i 0))⟩] [1, 3, 4, 5])
      (.bl 2 (.seq (.seq (.reg none [⟨(some 38), none, .mv (.t 5)⟩,
           ⟨(some 39), none, .mv (.t 4)⟩,
           ⟨(some 40), none, .bin .lss .i (.t 38) (.t 39)⟩] [1, 3, 4, 5, 40])
        (.cond (.t 40)
         (.skip)
         (.exit 2)))
       (.seq (.block 3 (.seq (.reg (some [[], [], [0, 1], [0, 1, 2], [0, 1, 2, 3], [], [], [5, 6], [5, 6, 7], [5, 6, 7, 8], [0, 1, 2, 3, 4, 5, 6, 7, 8, 9]]) [⟨(some 43), none, .mv (.t 3)⟩,
            ⟨(some 44), none, .mv (.t 5)⟩,
            ⟨(some 45), none, .ia 2 (.t 43) (.t 44)⟩,
            ⟨(some 46), none, .fa 0 (.t 45)⟩,
            ⟨(some 47), none, .ld false 1 (.t 46)⟩,
            ⟨(some 48), none, .mv (.t 3)⟩,
            ⟨(some 49), none, .mv (.t 4)⟩,
            ⟨(some 50), none, .ia 2 (.t 48) (.t 49)⟩,
            ⟨(some 51), none, .fa 0 (.t 50)⟩,
            ⟨(some 52), none, .ld false 1 (.t 51)⟩,
            ⟨(some 53), none, .bin .eql .i (.t 47) (.t 52)⟩] [1, 3, 4, 5, 53])
         (.cond (.t 53)
          (.seq (.reg none [⟨(some 2), none, .mv (.k (V.b false))⟩] [2])
           (.ret))
          (.skip))))
       (.reg none [⟨(some 41), none, .mv (.t 5)⟩,
         ⟨(some 42), none, .bin .add .i (.t 41) (.k (V.i 1))⟩,
         ⟨(some 5), none, .mv (.t 42)⟩] [1, 3, 4, 5])))))))
    (.reg none [⟨(some 28), none, .mv (.t 4)⟩,
      ⟨(some 29), none, .bin .add .i (.t 28) (.k (V.i 1))⟩,
      ⟨(some 4), none, .mv (.t 29)⟩] [1, 3, 4])))))
  (.seq (.reg none [⟨(some 2), none, .mv (.k (V.b true))⟩] [2])
  (.ret)))))
def rv31 : List RV := [.t 2]
/-- loop.example/g03014/impl.within -/
def ir89 : J :=
  .seq (.reg none [⟨(some 6), none, .mv (.k (V.b false))⟩] [0, 1, 2])
  (.seq (.reg none [⟨(some 7), none, .mv (.t 1)⟩,
     ⟨(some 8), none, .mv (.t 0)⟩,
     ⟨(some 9), none, .bin .leq .i (.t 7) (.t 8)⟩,
     ⟨(some 10), none, .mv (.t 9)⟩,
     ⟨(some 11), (some (10, true)), .mv (.t 0)⟩,
     ⟨(some 12), (some (10, true)), .mv (.t 2)⟩,
     ⟨(some 13), (some (10, true)), .bin .leq .i (.t 11) (.t 12)⟩,
     ⟨(some 14), none, .pick (.t 10) (.t 13) (.k (V.b false))⟩,
     ⟨(some 6), none, .mv (.t 14)⟩] [6])
  (.ret))
def rv89 : List RV := [.t 6]
/-- loop.example/g03014/impl.everyItem -/
def ir90 : J :=
  .seq (.reg none [⟨(some 1), none, .box (.t 0)⟩,
     ⟨(some 2), none, .mv (.k (.c (.n 2)))⟩] [1])
  (.seq (.reg none [⟨(some 10), none, .bsl 2 []⟩,
     ⟨(some 3), none, .mv (.t 10)⟩] [1, 3])
  (.seq (.seq (.reg none [⟨(some 11), none, .fa 0 (.t 1)⟩,
      ⟨(some 12), none, .ld false 1 (.t 11)⟩,
      ⟨(some 13), none, .len false (.t 12)⟩,
      ⟨(some 14), none, .mv (.k (V.i 0))⟩] [1, 3, 12, 13, 14])
   (.bl 0 (.seq (.reg none [⟨(some 15), none, .bin .lss .i (.t 14) (.t 13)⟩] [1, 3, 12, 13, 14, 15])
    (.seq (.cond (.t 15)
      (.skip)
      (.exit 0))
    (.seq (.block 1 (.seq (.reg none [⟨(some 16), none, .ia 2 (.t 12) (.t 14)⟩,
         ⟨(some 17), none, .ld true 2 (.t 16)⟩,
         ⟨(some 5), none, .alloc [.r (.v (.int .i64 0)), .r (.v (.int .i64 0))]⟩,
         ⟨none, none, .st 2 (.t 5) (.t 17)⟩] [1, 3, 5, 12, 13, 14])
      (.seq (.reg none [⟨(some 18), none, .ld true 2 (.t 5)⟩,
         ⟨(some 19), none, .bld [.r (.v (.int .i64 0)), .r (.v (.int .i64 0))] []⟩,
         ⟨(some 20), none, .eqs true [.i, .i] (.t 18) (.t 19)⟩] [1, 3, 5, 12, 13, 14, 20])
      (.cond (.t 20)
       (.reg none [⟨(some 21), none, .mv (.t 3)⟩,
          ⟨(some 22), none, .ld true 2 (.t 5)⟩,
          ⟨(some 23), none, .bsl 2 [(.t 22)]⟩,
          ⟨(some 24), none, .app 2 16 true (.t 21) (.t 23)⟩,
          ⟨(some 3), none, .mv (.t 24)⟩] [1, 3, 12, 13, 14])
       (.skip)))))
    (.reg none [⟨(some 25), none, .bin .add .i (.t 14) (.k (V.i 1))⟩,
      ⟨(some 14), none, .mv (.t 25)⟩] [1, 3, 12, 13, 14]))))))
  (.seq (.seq (.reg none [⟨(some 26), none, .fa 1 (.t 1)⟩,
      ⟨(some 27), none, .ld false 1 (.t 26)⟩,
      ⟨(some 28), none, .len false (.t 27)⟩,
      ⟨(some 29), none, .mv (.k (V.i 0))⟩] [1, 3, 27, 28, 29])
   (.bl 2 (.seq (.reg none [⟨(some 30), none, .bin .lss .i (.t 29) (.t 28)⟩] [1, 3, 27, 28, 29, 30])
    (.seq (.cond (.t 30)
      (.skip)
      (.exit 2))
    (.seq (.block 3 (.seq (.reg none [⟨(some 31), none, .ia 3 (.t 27) (.t 29)⟩,
         ⟨(some 32), none, .ld true 3 (.t 31)⟩,
         ⟨(some 7), none, .alloc [.r (.v (.int .i64 0)), .r (.v (.int .i64 0)), .n 2]⟩,
         ⟨none, none, .st 3 (.t 7) (.t 32)⟩] [1, 3, 7, 27, 28, 29])
      (.reg none [⟨(some 33), none, .mv (.t 3)⟩,
        ⟨(some 34), none, .fa 2 (.t 7)⟩,
        ⟨(some 35), none, .ld false 1 (.t 34)⟩,
        ⟨(some 36), none, .app 2 16 false (.t 33) (.t 35)⟩,
        ⟨(some 3), none, .mv (.t 36)⟩] [1, 3, 27, 28, 29])))
    (.reg none [⟨(some 37), none, .bin .add .i (.t 29) (.k (V.i 1))⟩,
      ⟨(some 29), none, .mv (.t 37)⟩] [1, 3, 27, 28, 29]))))))
  (.seq (.seq (.reg none [⟨(some 38), none, .fa 2 (.t 1)⟩,
      ⟨(some 39), none, .ld false 1 (.t 38)⟩,
      ⟨(some 40), none, .len false (.t 39)⟩,
      ⟨(some 41), none, .mv (.k (V.i 0))⟩] [3, 39, 40, 41])
   (.bl 4 (.seq (.reg none [⟨(some 42), none, .bin .lss .i (.t 41) (.t 40)⟩] [3, 39, 40, 41, 42])
    (.seq (.cond (.t 42)
      (.skip)
      (.exit 4))
    (.seq (.block 5 (.seq (.reg none [⟨(some 43), none, .ia 2 (.t 39) (.t 41)⟩,
         ⟨(some 44), none, .ld true 2 (.t 43)⟩,
         ⟨(some 9), none, .alloc [.r (.v (.int .i64 0)), .n 2]⟩,
         ⟨none, none, .st 2 (.t 9) (.t 44)⟩] [3, 9, 39, 40, 41])
      (.reg none [⟨(some 45), none, .mv (.t 3)⟩,
        ⟨(some 46), none, .fa 1 (.t 9)⟩,
        ⟨(some 47), none, .ld false 1 (.t 46)⟩,
        ⟨(some 48), none, .app 2 16 false (.t 45) (.t 47)⟩,
        ⟨(some 3), none, .mv (.t 48)⟩] [3, 39, 40, 41])))
    (.reg none [⟨(some 49), none, .bin .add .i (.t 41) (.k (V.i 1))⟩,
      ⟨(some 41), none, .mv (.t 49)⟩] [3, 39, 40, 41]))))))
  (.seq (.reg none [⟨(some 50), none, .mv (.t 3)⟩,
     ⟨(some 2), none, .mv (.t 50)⟩] [2])
  (.ret))))))
def rv90 : List RV := [.t 2]
/-- loop.example/g03014/laws.big -/
def ir33 : J :=
  .seq (.reg none [⟨(some 2), none, .mv (.k (V.b false))⟩] [0])
  (.seq (.reg none [⟨(some 3), none, .mv (.t 0)⟩,
     ⟨(some 4), none, .len false (.t 3)⟩,
     ⟨(some 5), none, .bin .gtr .i (.t 4) (.k (V.i 4096))⟩,
     ⟨(some 2), none, .mv (.t 5)⟩] [2])
  (.ret))
def rv33 : List RV := [.t 2]
/-- loop.example/g03014/spec.l1Ints -/
def ir96 : J :=
  .seq (.reg none [⟨(some 2), none, .mv (.k (.c (.n 1)))⟩] [0])
  (.seq (.reg none [⟨(some 3), none, .bsl 1 []⟩,
     ⟨(some 4), none, .mv (.t 0)⟩,
     ⟨(some 5), none, .app 1 8 false (.t 3) (.t 4)⟩,
     ⟨(some 2), none, .mv (.t 5)⟩] [2])
  (.ret))
def rv96 : List RV := [.t 2]
/-- loop.example/g03014/spec.NewCentre -/
def ir44 : J :=
  .seq (.reg none [⟨(some 10), none, .alloc [.n 2, .n 3, .n 2, .n 1, .r (.v (.int .i64 0))]⟩,
     ⟨(some 11), none, .mv (.k (V.b false))⟩] [0, 1, 2, 3, 4, 10])
  (.seq (.seq (.reg none [⟨(some 15), none, .mv (.t 0)⟩,
      ⟨(some 16), none, .call 85 true [(.t 15), (.k (V.i 2)), (.k (V.i 24))]⟩,
      ⟨(some 17), none, .not (.t 16)⟩] [0, 1, 2, 3, 4, 10, 17])
   (.cond (.t 17)
    (.seq (.reg none [⟨(some 18), none, .bld [.n 2, .n 3, .n 2, .n 1, .r (.v (.int .i64 0))] []⟩,
        ⟨none, none, .st 5 (.t 10) (.t 18)⟩,
        ⟨(some 11), none, .mv (.k (V.b false))⟩] [10, 11])
     (.ret))
    (.skip)))
  (.seq (.reg (some [[], [0], [], [2], [0, 1, 2, 3], [], [0, 1, 2, 3, 4, 5]]) [⟨(some 19), none, .mv (.t 0)⟩,
     ⟨(some 20), none, .mk 2 16 [.r (.v (.int .i64 0)), .r (.v (.int .i64 0))] (.t 19)⟩,
     ⟨(some 21), none, .mv (.t 4)⟩,
     ⟨(some 22), none, .call 96 true [(.t 21)]⟩,
     ⟨(some 23), none, .bld [.n 2, .n 3, .n 2, .n 1, .r (.v (.int .i64 0))] [(0, 1, (.t 20)), (3, 1, (.t 22))]⟩,
     ⟨(some 12), none, .alloc [.n 2, .n 3, .n 2, .n 1, .r (.v (.int .i64 0))]⟩,
     ⟨none, none, .st 5 (.t 12) (.t 23)⟩] [1, 2, 3, 10, 12])
  (.seq (.seq (.reg none [⟨(some 13), none, .mv (.k (V.i 0))⟩] [1, 2, 3, 10, 12, 13])
   (.bl 0 (.seq (.seq (.reg none [⟨(some 24), none, .mv (.t 13)⟩,
        ⟨(some 25), none, .mv (.t 1)⟩,
        ⟨(some 26), none, .len false (.t 25)⟩,
        ⟨(some 27), none, .bin .lss .i (.t 24) (.t 26)⟩] [1, 2, 3, 10, 12, 13, 27])
     (.cond (.t 27)
      (.skip)
      (.exit 0)))
    (.seq (.block 1 (.reg (some [[], [0], [], [], [2, 3], [2, 3, 4], [], [2, 3, 4, 5, 6], [2, 3, 4, 5, 6, 7], [0, 1, 2, 3, 4, 5, 6, 7, 8], [0, 1, 2, 3, 4, 5, 6, 7, 8, 9], [0, 1, 2, 3, 4, 5, 6, 7, 8, 9, 10]]) [⟨(some 30), none, .fa 1 (.t 12)⟩,
        ⟨(some 31), none, .ld false 1 (.t 30)⟩,
        ⟨(some 32), none, .mv (.t 1)⟩,
        ⟨(some 33), none, .mv (.t 13)⟩,
        ⟨(some 34), none, .ia 1 (.t 32) (.t 33)⟩,
        ⟨(some 35), none, .ld false 1 (.t 34)⟩,
        ⟨(some 36), none, .mv (.t 2)⟩,
        ⟨(some 37), none, .bld [.r (.v (.int .i64 0)), .r (.v (.int .i64 0)), .n 2] [(0, 1, (.t 35)), (1, 1, (.t 36))]⟩,
        ⟨(some 38), none, .bsl 3 [(.t 37)]⟩,
        ⟨(some 39), none, .app 3 40 true (.t 31) (.t 38)⟩,
        ⟨(some 40), none, .fa 1 (.t 12)⟩,
        ⟨none, none, .st 1 (.t 40) (.t 39)⟩] [1, 2, 3, 10, 12, 13]))
    (.reg none [⟨(some 28), none, .mv (.t 13)⟩,
      ⟨(some 29), none, .bin .add .i (.t 28) (.k (V.i 1))⟩,
      ⟨(some 13), none, .mv (.t 29)⟩] [1, 2, 3, 10, 12, 13])))))
  (.seq (.seq (.reg none [⟨(some 14), none, .mv (.k (V.i 0))⟩] [3, 10, 12, 14])
   (.bl 2 (.seq (.seq (.reg none [⟨(some 41), none, .mv (.t 14)⟩,
        ⟨(some 42), none, .mv (.t 3)⟩,
        ⟨(some 43), none, .len false (.t 42)⟩,
        ⟨(some 44), none, .bin .lss .i (.t 41) (.t 43)⟩] [3, 10, 12, 14, 44])
     (.cond (.t 44)
      (.skip)
      (.exit 2)))
    (.seq (.block 3 (.reg (some [[], [0], [], [], [2, 3], [2, 3, 4], [2, 3, 4, 5], [2, 3, 4, 5, 6], [0, 1, 2, 3, 4, 5, 6, 7], [0, 1, 2, 3, 4, 5, 6, 7, 8], [0, 1, 2, 3, 4, 5, 6, 7, 8, 9]]) [⟨(some 47), none, .fa 2 (.t 12)⟩,
        ⟨(some 48), none, .ld false 1 (.t 47)⟩,
        ⟨(some 49), none, .mv (.t 3)⟩,
        ⟨(some 50), none, .mv (.t 14)⟩,
        ⟨(some 51), none, .ia 1 (.t 49) (.t 50)⟩,
        ⟨(some 52), none, .ld false 1 (.t 51)⟩,
        ⟨(some 53), none, .bld [.r (.v (.int .i64 0)), .n 2] [(0, 1, (.t 52))]⟩,
        ⟨(some 54), none, .bsl 2 [(.t 53)]⟩,
        ⟨(some 55), none, .app 2 32 true (.t 48) (.t 54)⟩,
        ⟨(some 56), none, .fa 2 (.t 12)⟩,
        ⟨none, none, .st 1 (.t 56) (.t 55)⟩] [3, 10, 12, 14]))
    (.reg none [⟨(some 45), none, .mv (.t 14)⟩,
      ⟨(some 46), none, .bin .add .i (.t 45) (.k (V.i 1))⟩,
      ⟨(some 14), none, .mv (.t 46)⟩] [3, 10, 12, 14])))))
  (.seq (.seq (.reg none [⟨(some 57), none, .ld true 5 (.t 12)⟩,
      ⟨(some 58), none, .call 31 true [(.t 57)]⟩,
      ⟨(some 59), none, .not (.t 58)⟩] [10, 12, 59])
   (.cond (.t 59)
    (.seq (.reg none [⟨(some 60), none, .bld [.n 2, .n 3, .n 2, .n 1, .r (.v (.int .i64 0))] []⟩,
        ⟨none, none, .st 5 (.t 10) (.t 60)⟩,
        ⟨(some 11), none, .mv (.k (V.b false))⟩] [10, 11])
     (.ret))
    (.skip)))
  (.seq (.reg none [⟨(some 61), none, .ld true 5 (.t 12)⟩,
     ⟨none, none, .st 5 (.t 10) (.t 61)⟩,
     ⟨(some 11), none, .mv (.k (V.b true))⟩] [10, 11])
  (.ret)))))))
def rv44 : List RV := [.c 10 true 5, .t 11]
/-- loop.example/g03014/spec.l7Items -/
def ir108 : J :=
  .seq (.reg none [⟨(some 2), none, .mv (.k (.c (.n 2)))⟩] [0])
  (.seq (.reg none [⟨(some 3), none, .bsl 2 []⟩,
     ⟨(some 4), none, .mv (.t 0)⟩,
     ⟨(some 5), none, .app 2 16 false (.t 3) (.t 4)⟩,
     ⟨(some 2), none, .mv (.t 5)⟩] [2])
  (.ret))
def rv108 : List RV := [.t 2]
/-- loop.example/g03014/spec.l7Copy -/
def ir106 : J :=
  .seq (.reg none [⟨(some 1), none, .box (.t 0)⟩,
     ⟨(some 2), none, .alloc [.n 2, .n 3, .n 2, .n 1, .r (.v (.int .i64 0))]⟩] [1, 2])
  (.seq (.reg (some [[], [0], [0, 1], [], [3], [0, 1, 2, 3, 4], [], [6], [0, 1, 2, 3, 4, 5, 6, 7], [], [0, 1, 2, 3, 4, 5, 6, 7, 8, 9]]) [⟨(some 6), none, .fa 0 (.t 1)⟩,
     ⟨(some 7), none, .ld false 1 (.t 6)⟩,
     ⟨(some 8), none, .call 108 true [(.t 7)]⟩,
     ⟨(some 9), none, .fa 3 (.t 1)⟩,
     ⟨(some 10), none, .ld false 1 (.t 9)⟩,
     ⟨(some 11), none, .call 96 true [(.t 10)]⟩,
     ⟨(some 12), none, .fa 4 (.t 1)⟩,
     ⟨(some 13), none, .ld false 1 (.t 12)⟩,
     ⟨(some 14), none, .bld [.n 2, .n 3, .n 2, .n 1, .r (.v (.int .i64 0))] [(0, 1, (.t 8)), (3, 1, (.t 11)), (4, 1, (.t 13))]⟩,
     ⟨(some 3), none, .alloc [.n 2, .n 3, .n 2, .n 1, .r (.v (.int .i64 0))]⟩,
     ⟨none, none, .st 5 (.t 3) (.t 14)⟩] [1, 2, 3])
  (.seq (.seq (.reg none [⟨(some 4), none, .mv (.k (V.i 0))⟩] [1, 2, 3, 4])
   (.bl 0 (.seq (.seq (.reg none [⟨(some 15), none, .mv (.t 4)⟩,
        ⟨(some 16), none, .fa 1 (.t 1)⟩,
        ⟨(some 17), none, .ld false 1 (.t 16)⟩,
        ⟨(some 18), none, .len false (.t 17)⟩,
        ⟨(some 19), none, .bin .lss .i (.t 15) (.t 18)⟩] [1, 2, 3, 4, 19])
     (.cond (.t 19)
      (.skip)
      (.exit 0)))
    (.seq (.block 1 (.reg (some [[], [0], [], [2], [], [2, 3, 4], [2, 3, 4, 5], [2, 3, 4, 5, 6], [], [8], [], [8, 9, 10], [8, 9, 10, 11], [8, 9, 10, 11, 12], [], [14], [], [14, 15, 16], [14, 15, 16, 17], [14, 15, 16, 17, 18], [14, 15, 16, 17, 18, 19], [2, 3, 4, 5, 6, 7, 8, 9, 10, 11, 12, 13, 14, 15, 16, 17, 18, 19, 20], [2, 3, 4, 5, 6, 7, 8, 9, 10, 11, 12, 13, 14, 15, 16, 17, 18, 19, 20, 21], [0, 1, 2, 3, 4, 5, 6, 7, 8, 9, 10, 11, 12, 13, 14, 15, 16, 17, 18, 19, 20, 21, 22], [0, 1, 2, 3, 4, 5, 6, 7, 8, 9, 10, 11, 12, 13, 14, 15, 16, 17, 18, 19, 20, 21, 22, 23], [0, 1, 2, 3, 4, 5, 6, 7, 8, 9, 10, 11, 12, 13, 14, 15, 16, 17, 18, 19, 20, 21, 22, 23, 24]]) [⟨(some 22), none, .fa 1 (.t 3)⟩,
        ⟨(some 23), none, .ld false 1 (.t 22)⟩,
        ⟨(some 24), none, .fa 1 (.t 1)⟩,
        ⟨(some 25), none, .ld false 1 (.t 24)⟩,
        ⟨(some 26), none, .mv (.t 4)⟩,
        ⟨(some 27), none, .ia 3 (.t 25) (.t 26)⟩,
        ⟨(some 28), none, .fa 0 (.t 27)⟩,
        ⟨(some 29), none, .ld false 1 (.t 28)⟩,
        ⟨(some 30), none, .fa 1 (.t 1)⟩,
        ⟨(some 31), none, .ld false 1 (.t 30)⟩,
        ⟨(some 32), none, .mv (.t 4)⟩,
        ⟨(some 33), none, .ia 3 (.t 31) (.t 32)⟩,
        ⟨(some 34), none, .fa 1 (.t 33)⟩,
        ⟨(some 35), none, .ld false 1 (.t 34)⟩,
        ⟨(some 36), none, .fa 1 (.t 1)⟩,
        ⟨(some 37), none, .ld false 1 (.t 36)⟩,
        ⟨(some 38), none, .mv (.t 4)⟩,
        ⟨(some 39), none, .ia 3 (.t 37) (.t 38)⟩,
        ⟨(some 40), none, .fa 2 (.t 39)⟩,
        ⟨(some 41), none, .ld false 1 (.t 40)⟩,
        ⟨(some 42), none, .call 108 true [(.t 41)]⟩,
        ⟨(some 43), none, .bld [.r (.v (.int .i64 0)), .r (.v (.int .i64 0)), .n 2] [(0, 1, (.t 29)), (1, 1, (.t 35)), (2, 1, (.t 42))]⟩,
        ⟨(some 44), none, .bsl 3 [(.t 43)]⟩,
        ⟨(some 45), none, .app 3 40 true (.t 23) (.t 44)⟩,
        ⟨(some 46), none, .fa 1 (.t 3)⟩,
        ⟨none, none, .st 1 (.t 46) (.t 45)⟩] [1, 2, 3, 4]))
    (.reg none [⟨(some 20), none, .mv (.t 4)⟩,
      ⟨(some 21), none, .bin .add .i (.t 20) (.k (V.i 1))⟩,
      ⟨(some 4), none, .mv (.t 21)⟩] [1, 2, 3, 4])))))
  (.seq (.seq (.reg none [⟨(some 5), none, .mv (.k (V.i 0))⟩] [1, 2, 3, 5])
   (.bl 2 (.seq (.seq (.reg none [⟨(some 47), none, .mv (.t 5)⟩,
        ⟨(some 48), none, .fa 2 (.t 1)⟩,
        ⟨(some 49), none, .ld false 1 (.t 48)⟩,
        ⟨(some 50), none, .len false (.t 49)⟩,
        ⟨(some 51), none, .bin .lss .i (.t 47) (.t 50)⟩] [1, 2, 3, 5, 51])
     (.cond (.t 51)
      (.skip)
      (.exit 2)))
    (.seq (.block 3 (.reg (some [[], [0], [], [2], [], [2, 3, 4], [2, 3, 4, 5], [2, 3, 4, 5, 6], [], [8], [], [8, 9, 10], [8, 9, 10, 11], [8, 9, 10, 11, 12], [8, 9, 10, 11, 12, 13], [2, 3, 4, 5, 6, 7, 8, 9, 10, 11, 12, 13, 14], [2, 3, 4, 5, 6, 7, 8, 9, 10, 11, 12, 13, 14, 15], [0, 1, 2, 3, 4, 5, 6, 7, 8, 9, 10, 11, 12, 13, 14, 15, 16], [0, 1, 2, 3, 4, 5, 6, 7, 8, 9, 10, 11, 12, 13, 14, 15, 16, 17], [0, 1, 2, 3, 4, 5, 6, 7, 8, 9, 10, 11, 12, 13, 14, 15, 16, 17, 18]]) [⟨(some 54), none, .fa 2 (.t 3)⟩,
        ⟨(some 55), none, .ld false 1 (.t 54)⟩,
        ⟨(some 56), none, .fa 2 (.t 1)⟩,
        ⟨(some 57), none, .ld false 1 (.t 56)⟩,
        ⟨(some 58), none, .mv (.t 5)⟩,
        ⟨(some 59), none, .ia 2 (.t 57) (.t 58)⟩,
        ⟨(some 60), none, .fa 0 (.t 59)⟩,
        ⟨(some 61), none, .ld false 1 (.t 60)⟩,
        ⟨(some 62), none, .fa 2 (.t 1)⟩,
        ⟨(some 63), none, .ld false 1 (.t 62)⟩,
        ⟨(some 64), none, .mv (.t 5)⟩,
        ⟨(some 65), none, .ia 2 (.t 63) (.t 64)⟩,
        ⟨(some 66), none, .fa 1 (.t 65)⟩,
        ⟨(some 67), none, .ld false 1 (.t 66)⟩,
        ⟨(some 68), none, .call 108 true [(.t 67)]⟩,
        ⟨(some 69), none, .bld [.r (.v (.int .i64 0)), .n 2] [(0, 1, (.t 61)), (1, 1, (.t 68))]⟩,
        ⟨(some 70), none, .bsl 2 [(.t 69)]⟩,
        ⟨(some 71), none, .app 2 32 true (.t 55) (.t 70)⟩,
        ⟨(some 72), none, .fa 2 (.t 3)⟩,
        ⟨none, none, .st 1 (.t 72) (.t 71)⟩] [1, 2, 3, 5]))
    (.reg none [⟨(some 52), none, .mv (.t 5)⟩,
      ⟨(some 53), none, .bin .add .i (.t 52) (.k (V.i 1))⟩,
      ⟨(some 5), none, .mv (.t 53)⟩] [1, 2, 3, 5])))))
  (.seq (.reg none [⟨(some 73), none, .ld true 5 (.t 3)⟩,
     ⟨none, none, .st 5 (.t 2) (.t 73)⟩] [2])
  (.ret)))))
def rv106 : List RV := [.c 2 true 5]
/-- loop.example/g03014/laws.items -/
def ir37 : J :=
  .seq (.reg none [⟨(some 4), none, .mv (.k (V.b false))⟩] [0, 1])
  (.seq (.seq (.reg none [⟨(some 6), none, .mv (.t 0)⟩,
      ⟨(some 7), none, .len false (.t 6)⟩,
      ⟨(some 8), none, .mv (.t 1)⟩,
      ⟨(some 9), none, .len false (.t 8)⟩,
      ⟨(some 10), none, .bin .neq .i (.t 7) (.t 9)⟩] [0, 1, 10])
   (.cond (.t 10)
    (.seq (.reg none [⟨(some 4), none, .mv (.k (V.b false))⟩] [4])
     (.ret))
    (.skip)))
  (.seq (.seq (.reg none [⟨(some 5), none, .mv (.k (V.i 0))⟩] [0, 1, 5])
   (.bl 0 (.seq (.seq (.reg none [⟨(some 11), none, .mv (.t 5)⟩,
        ⟨(some 12), none, .mv (.t 0)⟩,
        ⟨(some 13), none, .len false (.t 12)⟩,
        ⟨(some 14), none, .bin .lss .i (.t 11) (.t 13)⟩] [0, 1, 5, 14])
     (.cond (.t 14)
      (.skip)
      (.exit 0)))
    (.seq (.block 1 (.seq (.reg (some [[], [], [0, 1], [0, 1, 2], [], [], [4, 5], [4, 5, 6], [0, 1, 2, 3, 4, 5, 6, 7]]) [⟨(some 17), none, .mv (.t 0)⟩,
         ⟨(some 18), none, .mv (.t 5)⟩,
         ⟨(some 19), none, .ia 2 (.t 17) (.t 18)⟩,
         ⟨(some 20), none, .ld true 2 (.t 19)⟩,
         ⟨(some 21), none, .mv (.t 1)⟩,
         ⟨(some 22), none, .mv (.t 5)⟩,
         ⟨(some 23), none, .ia 2 (.t 21) (.t 22)⟩,
         ⟨(some 24), none, .ld true 2 (.t 23)⟩,
         ⟨(some 25), none, .eqs true [.i, .i] (.t 20) (.t 24)⟩] [0, 1, 5, 25])
      (.cond (.t 25)
       (.seq (.reg none [⟨(some 4), none, .mv (.k (V.b false))⟩] [4])
        (.ret))
       (.skip))))
    (.reg none [⟨(some 15), none, .mv (.t 5)⟩,
      ⟨(some 16), none, .bin .add .i (.t 15) (.k (V.i 1))⟩,
      ⟨(some 5), none, .mv (.t 16)⟩] [0, 1, 5])))))
  (.seq (.reg none [⟨(some 4), none, .mv (.k (V.b true))⟩] [4])
  (.ret))))
def rv37 : List RV := [.t 4]
/-- loop.example/g03014/laws.ints -/
def ir38 : J :=
  .seq (.reg none [⟨(some 4), none, .mv (.k (V.b false))⟩] [0, 1])
  (.seq (.seq (.reg none [⟨(some 6), none, .mv (.t 0)⟩,
      ⟨(some 7), none, .len false (.t 6)⟩,
      ⟨(some 8), none, .mv (.t 1)⟩,
      ⟨(some 9), none, .len false (.t 8)⟩,
      ⟨(some 10), none, .bin .neq .i (.t 7) (.t 9)⟩] [0, 1, 10])
   (.cond (.t 10)
    (.seq (.reg none [⟨(some 4), none, .mv (.k (V.b false))⟩] [4])
     (.ret))
    (.skip)))
  (.seq (.seq (.reg none [⟨(some 5), none, .mv (.k (V.i 0))⟩] [0, 1, 5])
   (.bl 0 (.seq (.seq (.reg none [⟨(some 11), none, .mv (.t 5)⟩,
        ⟨(some 12), none, .mv (.t 0)⟩,
        ⟨(some 13), none, .len false (.t 12)⟩,
        ⟨(some 14), none, .bin .lss .i (.t 11) (.t 13)⟩] [0, 1, 5, 14])
     (.cond (.t 14)
      (.skip)
      (.exit 0)))
    (.seq (.block 1 (.seq (.reg (some [[], [], [0, 1], [0, 1, 2], [], [], [4, 5], [4, 5, 6], [0, 1, 2, 3, 4, 5, 6, 7]]) [⟨(some 17), none, .mv (.t 0)⟩,
         ⟨(some 18), none, .mv (.t 5)⟩,
         ⟨(some 19), none, .ia 1 (.t 17) (.t 18)⟩,
         ⟨(some 20), none, .ld false 1 (.t 19)⟩,
         ⟨(some 21), none, .mv (.t 1)⟩,
         ⟨(some 22), none, .mv (.t 5)⟩,
         ⟨(some 23), none, .ia 1 (.t 21) (.t 22)⟩,
         ⟨(some 24), none, .ld false 1 (.t 23)⟩,
         ⟨(some 25), none, .bin .neq .i (.t 20) (.t 24)⟩] [0, 1, 5, 25])
      (.cond (.t 25)
       (.seq (.reg none [⟨(some 4), none, .mv (.k (V.b false))⟩] [4])
        (.ret))
       (.skip))))
    (.reg none [⟨(some 15), none, .mv (.t 5)⟩,
      ⟨(some 16), none, .bin .add .i (.t 15) (.k (V.i 1))⟩,
      ⟨(some 5), none, .mv (.t 16)⟩] [0, 1, 5])))))
  (.seq (.reg none [⟨(some 4), none, .mv (.k (V.b true))⟩] [4])
  (.ret))))
def rv38 : List RV := [.t 4]
/-- loop.example/g03014/laws.centres -/
def ir35 : J :=
  .seq (.reg none [⟨(some 2), none, .box (.t 0)⟩,
     ⟨(some 3), none, .box (.t 1)⟩,
     ⟨(some 4), none, .mv (.k (V.b false))⟩] [2, 3])
  (.seq (.seq (.reg none [⟨(some 7), none, .fa 0 (.t 2)⟩,
      ⟨(some 8), none, .ld false 1 (.t 7)⟩,
      ⟨(some 9), none, .fa 0 (.t 3)⟩,
      ⟨(some 10), none, .ld false 1 (.t 9)⟩,
      ⟨(some 11), none, .call 37 true [(.t 8), (.t 10)]⟩,
      ⟨(some 12), none, .not (.t 11)⟩,
      ⟨(some 13), none, .mv (.t 12)⟩,
      ⟨(some 14), (some (13, false)), .fa 1 (.t 2)⟩,
      ⟨(some 15), (some (13, false)), .ld false 1 (.t 14)⟩,
      ⟨(some 16), (some (13, false)), .len false (.t 15)⟩,
      ⟨(some 17), (some (13, false)), .fa 1 (.t 3)⟩,
      ⟨(some 18), (some (13, false)), .ld false 1 (.t 17)⟩,
      ⟨(some 19), (some (13, false)), .len false (.t 18)⟩,
      ⟨(some 20), (some (13, false)), .bin .neq .i (.t 16) (.t 19)⟩,
      ⟨(some 21), none, .pick (.t 13) (.k (V.b true)) (.t 20)⟩,
      ⟨(some 22), none, .mv (.t 21)⟩,
      ⟨(some 23), (some (22, false)), .fa 2 (.t 2)⟩,
      ⟨(some 24), (some (22, false)), .ld false 1 (.t 23)⟩,
      ⟨(some 25), (some (22, false)), .len false (.t 24)⟩,
      ⟨(some 26), (some (22, false)), .fa 2 (.t 3)⟩,
      ⟨(some 27), (some (22, false)), .ld false 1 (.t 26)⟩,
      ⟨(some 28), (some (22, false)), .len false (.t 27)⟩,
      ⟨(some 29), (some (22, false)), .bin .neq .i (.t 25) (.t 28)⟩,
      ⟨(some 30), none, .pick (.t 22) (.k (V.b true)) (.t 29)⟩,
      ⟨(some 31), none, .mv (.t 30)⟩,
      ⟨(some 32), (some (31, false)), .fa 3 (.t 2)⟩,
      ⟨(some 33), (some (31, false)), .ld false 1 (.t 32)⟩,
      ⟨(some 34), (some (31, false)), .fa 3 (.t 3)⟩,
      ⟨(some 35), (some (31, false)), .ld false 1 (.t 34)⟩,
      ⟨(some 36), (some (31, false)), .call 38 true [(.t 33), (.t 35)]⟩,
      ⟨(some 37), (some (31, false)), .not (.t 36)⟩,
      ⟨(some 38), none, .pick (.t 31) (.k (V.b true)) (.t 37)⟩,
      ⟨(some 39), none, .mv (.t 38)⟩,
      ⟨(some 40), (some (39, false)), .fa 4 (.t 2)⟩,
      ⟨(some 41), (some (39, false)), .ld false 1 (.t 40)⟩,
      ⟨(some 42), (some (39, false)), .fa 4 (.t 3)⟩,
      ⟨(some 43), (some (39, false)), .ld false 1 (.t 42)⟩,
      ⟨(some 44), (some (39, false)), .bin .neq .i (.t 41) (.t 43)⟩,
      ⟨(some 45), none, .pick (.t 39) (.k (V.b true)) (.t 44)⟩] [2, 3, 45])
   (.cond (.t 45)
    (.seq (.reg none [⟨(some 4), none, .mv (.k (V.b false))⟩] [4])
     (.ret))
    (.skip)))
  (.seq (.seq (.reg none [⟨(some 5), none, .mv (.k (V.i 0))⟩] [2, 3, 5])
   (.bl 0 (.seq (.seq (.reg none [⟨(some 46), none, .mv (.t 5)⟩,
        ⟨(some 47), none, .fa 1 (.t 2)⟩,
        ⟨(some 48), none, .ld false 1 (.t 47)⟩,
        ⟨(some 49), none, .len false (.t 48)⟩,
        ⟨(some 50), none, .bin .lss .i (.t 46) (.t 49)⟩] [2, 3, 5, 50])
     (.cond (.t 50)
      (.skip)
      (.exit 0)))
    (.seq (.block 1 (.seq (.reg (some [[], [0], [], [0, 1, 2], [0, 1, 2, 3], [0, 1, 2, 3, 4], [], [6], [], [6, 7, 8], [6, 7, 8, 9], [6, 7, 8, 9, 10], [0, 1, 2, 3, 4, 5, 6, 7, 8, 9, 10, 11], [0, 1, 2, 3, 4, 5, 6, 7, 8, 9, 10, 11, 12], [0, 1, 2, 3, 4, 5, 6, 7, 8, 9, 10, 11, 12, 13], [0, 1, 2, 3, 4, 5, 6, 7, 8, 9, 10, 11, 12, 13, 14], [0, 1, 2, 3, 4, 5, 6, 7, 8, 9, 10, 11, 12, 13], [0, 1, 2, 3, 4, 5, 6, 7, 8, 9, 10, 11, 12, 13, 14, 15, 16], [0, 1, 2, 3, 4, 5, 6, 7, 8, 9, 10, 11, 12, 13, 14, 15, 16, 17], [0, 1, 2, 3, 4, 5, 6, 7, 8, 9, 10, 11, 12, 13, 14, 15, 16, 17, 18], [0, 1, 2, 3, 4, 5, 6, 7, 8, 9, 10, 11, 12, 13], [0, 1, 2, 3, 4, 5, 6, 7, 8, 9, 10, 11, 12, 13, 20], [0, 1, 2, 3, 4, 5, 6, 7, 8, 9, 10, 11, 12, 13], [0, 1, 2, 3, 4, 5, 6, 7, 8, 9, 10, 11, 12, 13, 20, 21, 22], [0, 1, 2, 3, 4, 5, 6, 7, 8, 9, 10, 11, 12, 13, 20, 21, 22, 23], [0, 1, 2, 3, 4, 5, 6, 7, 8, 9, 10, 11, 12, 13, 20, 21, 22, 23, 24], [0, 1, 2, 3, 4, 5, 6, 7, 8, 9, 10, 11, 12, 13, 14, 15, 16, 17, 18, 19, 20, 21, 22, 23, 24, 25], [0, 1, 2, 3, 4, 5, 6, 7, 8, 9, 10, 11, 12, 13, 14, 15, 16, 17, 18, 19, 20, 21, 22, 23, 24, 25, 26], [0, 1, 2, 3, 4, 5, 6, 7, 8, 9, 10, 11, 12, 13, 14, 15, 16, 17, 18, 19, 20, 21, 22, 23, 24, 25, 26, 27], [0, 1, 2, 3, 4, 5, 6, 7, 8, 9, 10, 11, 12, 13, 14, 15, 16, 17, 18, 19, 20, 21, 22, 23, 24, 25, 26, 27, 28], [0, 1, 2, 3, 4, 5, 6, 7, 8, 9, 10, 11, 12, 13, 14, 15, 16, 17, 18, 19, 20, 21, 22, 23, 24, 25, 26, 27, 28, 29], [0, 1, 2, 3, 4, 5, 6, 7, 8, 9, 10, 11, 12, 13, 14, 15, 16, 17, 18, 19, 20, 21, 22, 23, 24, 25, 26, 27, 28], [0, 1, 2, 3, 4, 5, 6, 7, 8, 9, 10, 11, 12, 13, 14, 15, 16, 17, 18, 19, 20, 21, 22, 23, 24, 25, 26, 27, 28, 29, 30, 31], [0, 1, 2, 3, 4, 5, 6, 7, 8, 9, 10, 11, 12, 13, 14, 15, 16, 17, 18, 19, 20, 21, 22, 23, 24, 25, 26, 27, 28, 29, 30, 31, 32], [0, 1, 2, 3, 4, 5, 6, 7, 8, 9, 10, 11, 12, 13, 14, 15, 16, 17, 18, 19, 20, 21, 22, 23, 24, 25, 26, 27, 28, 29, 30, 31, 32, 33], [0, 1, 2, 3, 4, 5, 6, 7, 8, 9, 10, 11, 12, 13, 14, 15, 16, 17, 18, 19, 20, 21, 22, 23, 24, 25, 26, 27, 28], [0, 1, 2, 3, 4, 5, 6, 7, 8, 9, 10, 11, 12, 13, 14, 15, 16, 17, 18, 19, 20, 21, 22, 23, 24, 25, 26, 27, 28, 35], [0, 1, 2, 3, 4, 5, 6, 7, 8, 9, 10, 11, 12, 13, 14, 15, 16, 17, 18, 19, 20, 21, 22, 23, 24, 25, 26, 27, 28], [0, 1, 2, 3, 4, 5, 6, 7, 8, 9, 10, 11, 12, 13, 14, 15, 16, 17, 18, 19, 20, 21, 22, 23, 24, 25, 26, 27, 28, 35, 36, 37], [0, 1, 2, 3, 4, 5, 6, 7, 8, 9, 10, 11, 12, 13, 14, 15, 16, 17, 18, 19, 20, 21, 22, 23, 24, 25, 26, 27, 28, 35, 36, 37, 38], [0, 1, 2, 3, 4, 5, 6, 7, 8, 9, 10, 11, 12, 13, 14, 15, 16, 17, 18, 19, 20, 21, 22, 23, 24, 25, 26, 27, 28, 35, 36, 37, 38, 39], [0, 1, 2, 3, 4, 5, 6, 7, 8, 9, 10, 11, 12, 13, 14, 15, 16, 17, 18, 19, 20, 21, 22, 23, 24, 25, 26, 27, 28, 29, 30, 31, 32, 33, 34, 35, 36, 37, 38, 39, 40], [0, 1, 2, 3, 4, 5, 6, 7, 8, 9, 10, 11, 12, 13, 14, 15, 16, 17, 18, 19, 20, 21, 22, 23, 24, 25, 26, 27, 28, 29, 30, 31, 32, 33, 34, 35, 36, 37, 38, 39, 40, 41], [0, 1, 2, 3, 4, 5, 6, 7, 8, 9, 10, 11, 12, 13, 14, 15, 16, 17, 18, 19, 20, 21, 22, 23, 24, 25, 26, 27, 28, 29, 30, 31, 32, 33, 34, 35, 36, 37, 38, 39, 40, 41, 42]]) [⟨(some 53), none, .fa 1 (.t 2)⟩,
         ⟨(some 54), none, .ld false 1 (.t 53)⟩,
         ⟨(some 55), none, .mv (.t 5)⟩,
         ⟨(some 56), none, .ia 3 (.t 54) (.t 55)⟩,
         ⟨(some 57), none, .fa 0 (.t 56)⟩,
         ⟨(some 58), none, .ld false 1 (.t 57)⟩,
         ⟨(some 59), none, .fa 1 (.t 3)⟩,
         ⟨(some 60), none, .ld false 1 (.t 59)⟩,
         ⟨(some 61), none, .mv (.t 5)⟩,
         ⟨(some 62), none, .ia 3 (.t 60) (.t 61)⟩,
         ⟨(some 63), none, .fa 0 (.t 62)⟩,
         ⟨(some 64), none, .ld false 1 (.t 63)⟩,
         ⟨(some 65), none, .bin .neq .i (.t 58) (.t 64)⟩,
         ⟨(some 66), none, .mv (.t 65)⟩,
         ⟨(some 67), (some (66, false)), .fa 1 (.t 2)⟩,
         ⟨(some 68), (some (66, false)), .ld false 1 (.t 67)⟩,
         ⟨(some 69), (some (66, false)), .mv (.t 5)⟩,
         ⟨(some 70), (some (66, false)), .ia 3 (.t 68) (.t 69)⟩,
         ⟨(some 71), (some (66, false)), .fa 1 (.t 70)⟩,
         ⟨(some 72), (some (66, false)), .ld false 1 (.t 71)⟩,
         ⟨(some 73), (some (66, false)), .fa 1 (.t 3)⟩,
         ⟨(some 74), (some (66, false)), .ld false 1 (.t 73)⟩,
         ⟨(some 75), (some (66, false)), .mv (.t 5)⟩,
         ⟨(some 76), (some (66, false)), .ia 3 (.t 74) (.t 75)⟩,
         ⟨(some 77), (some (66, false)), .fa 1 (.t 76)⟩,
         ⟨(some 78), (some (66, false)), .ld false 1 (.t 77)⟩,
         ⟨(some 79), (some (66, false)), .bin .neq .i (.t 72) (.t 78)⟩,
         ⟨(some 80), none, .pick (.t 66) (.k (V.b true)) (.t 79)⟩,
         ⟨(some 81), none, .mv (.t 80)⟩,
         ⟨(some 82), (some (81, false)), .fa 1 (.t 2)⟩,
         ⟨(some 83), (some (81, false)), .ld false 1 (.t 82)⟩,
         ⟨(some 84), (some (81, false)), .mv (.t 5)⟩,
         ⟨(some 85), (some (81, false)), .ia 3 (.t 83) (.t 84)⟩,
         ⟨(some 86), (some (81, false)), .fa 2 (.t 85)⟩,
         ⟨(some 87), (some (81, false)), .ld false 1 (.t 86)⟩,
         ⟨(some 88), (some (81, false)), .fa 1 (.t 3)⟩,
         ⟨(some 89), (some (81, false)), .ld false 1 (.t 88)⟩,
         ⟨(some 90), (some (81, false)), .mv (.t 5)⟩,
         ⟨(some 91), (some (81, false)), .ia 3 (.t 89) (.t 90)⟩,
         ⟨(some 92), (some (81, false)), .fa 2 (.t 91)⟩,
         ⟨(some 93), (some (81, false)), .ld false 1 (.t 92)⟩,
         ⟨(some 94), (some (81, false)), .call 37 true [(.t 87), (.t 93)]⟩,
         ⟨(some 95), (some (81, false)), .not (.t 94)⟩,
         ⟨(some 96), none, .pick (.t 81) (.k (V.b true)) (.t 95)⟩] [2, 3, 5, 96])
      (.cond (.t 96)
       (.seq (.reg none [⟨(some 4), none, .mv (.k (V.b false))⟩] [4])
        (.ret))
       (.skip))))
    (.reg none [⟨(some 51), none, .mv (.t 5)⟩,
      ⟨(some 52), none, .bin .add .i (.t 51) (.k (V.i 1))⟩,
      ⟨(some 5), none, .mv (.t 52)⟩] [2, 3, 5])))))
  (.seq (.seq (.reg none [⟨(some 6), none, .mv (.k (V.i 0))⟩] [2, 3, 6])
   (.bl 2 (.seq (.seq (.reg none [⟨(some 97), none, .mv (.t 6)⟩,
        ⟨(some 98), none, .fa 2 (.t 2)⟩,
        ⟨(some 99), none, .ld false 1 (.t 98)⟩,
        ⟨(some 100), none, .len false (.t 99)⟩,
        ⟨(some 101), none, .bin .lss .i (.t 97) (.t 100)⟩] [2, 3, 6, 101])
     (.cond (.t 101)
      (.skip)
      (.exit 2)))
    (.seq (.block 3 (.seq (.reg (some [[], [0], [], [0, 1, 2], [0, 1, 2, 3], [0, 1, 2, 3, 4], [], [6], [], [6, 7, 8], [6, 7, 8, 9], [6, 7, 8, 9, 10], [0, 1, 2, 3, 4, 5, 6, 7, 8, 9, 10, 11], [0, 1, 2, 3, 4, 5, 6, 7, 8, 9, 10, 11, 12], [0, 1, 2, 3, 4, 5, 6, 7, 8, 9, 10, 11, 12, 13], [0, 1, 2, 3, 4, 5, 6, 7, 8, 9, 10, 11, 12, 13, 14], [0, 1, 2, 3, 4, 5, 6, 7, 8, 9, 10, 11, 12, 13], [0, 1, 2, 3, 4, 5, 6, 7, 8, 9, 10, 11, 12, 13, 14, 15, 16], [0, 1, 2, 3, 4, 5, 6, 7, 8, 9, 10, 11, 12, 13, 14, 15, 16, 17], [0, 1, 2, 3, 4, 5, 6, 7, 8, 9, 10, 11, 12, 13, 14, 15, 16, 17, 18], [0, 1, 2, 3, 4, 5, 6, 7, 8, 9, 10, 11, 12, 13], [0, 1, 2, 3, 4, 5, 6, 7, 8, 9, 10, 11, 12, 13, 20], [0, 1, 2, 3, 4, 5, 6, 7, 8, 9, 10, 11, 12, 13], [0, 1, 2, 3, 4, 5, 6, 7, 8, 9, 10, 11, 12, 13, 20, 21, 22], [0, 1, 2, 3, 4, 5, 6, 7, 8, 9, 10, 11, 12, 13, 20, 21, 22, 23], [0, 1, 2, 3, 4, 5, 6, 7, 8, 9, 10, 11, 12, 13, 20, 21, 22, 23, 24], [0, 1, 2, 3, 4, 5, 6, 7, 8, 9, 10, 11, 12, 13, 14, 15, 16, 17, 18, 19, 20, 21, 22, 23, 24, 25], [0, 1, 2, 3, 4, 5, 6, 7, 8, 9, 10, 11, 12, 13, 14, 15, 16, 17, 18, 19, 20, 21, 22, 23, 24, 25, 26], [0, 1, 2, 3, 4, 5, 6, 7, 8, 9, 10, 11, 12, 13, 14, 15, 16, 17, 18, 19, 20, 21, 22, 23, 24, 25, 26, 27]]) [⟨(some 104), none, .fa 2 (.t 2)⟩,
         ⟨(some 105), none, .ld false 1 (.t 104)⟩,
         ⟨(some 106), none, .mv (.t 6)⟩,
         ⟨(some 107), none, .ia 2 (.t 105) (.t 106)⟩,
         ⟨(some 108), none, .fa 0 (.t 107)⟩,
         ⟨(some 109), none, .ld false 1 (.t 108)⟩,
         ⟨(some 110), none, .fa 2 (.t 3)⟩,
         ⟨(some 111), none, .ld false 1 (.t 110)⟩,
         ⟨(some 112), none, .mv (.t 6)⟩,
         ⟨(some 113), none, .ia 2 (.t 111) (.t 112)⟩,
         ⟨(some 114), none, .fa 0 (.t 113)⟩,
         ⟨(some 115), none, .ld false 1 (.t 114)⟩,
         ⟨(some 116), none, .bin .neq .i (.t 109) (.t 115)⟩,
         ⟨(some 117), none, .mv (.t 116)⟩,
         ⟨(some 118), (some (117, false)), .fa 2 (.t 2)⟩,
         ⟨(some 119), (some (117, false)), .ld false 1 (.t 118)⟩,
         ⟨(some 120), (some (117, false)), .mv (.t 6)⟩,
         ⟨(some 121), (some (117, false)), .ia 2 (.t 119) (.t 120)⟩,
         ⟨(some 122), (some (117, false)), .fa 1 (.t 121)⟩,
         ⟨(some 123), (some (117, false)), .ld false 1 (.t 122)⟩,
         ⟨(some 124), (some (117, false)), .fa 2 (.t 3)⟩,
         ⟨(some 125), (some (117, false)), .ld false 1 (.t 124)⟩,
         ⟨(some 126), (some (117, false)), .mv (.t 6)⟩,
         ⟨(some 127), (some (117, false)), .ia 2 (.t 125) (.t 126)⟩,
         ⟨(some 128), (some (117, false)), .fa 1 (.t 127)⟩,
         ⟨(some 129), (some (117, false)), .ld false 1 (.t 128)⟩,
         ⟨(some 130), (some (117, false)), .call 37 true [(.t 123), (.t 129)]⟩,
         ⟨(some 131), (some (117, false)), .not (.t 130)⟩,
         ⟨(some 132), none, .pick (.t 117) (.k (V.b true)) (.t 131)⟩] [2, 3, 6, 132])
      (.cond (.t 132)
       (.seq (.reg none [⟨(some 4), none, .mv (.k (V.b false))⟩] [4])
        (.ret))
       (.skip))))
    (.reg none [⟨(some 102), none, .mv (.t 6)⟩,
      ⟨(some 103), none, .bin .add .i (.t 102) (.k (V.i 1))⟩,
      ⟨(some 6), none, .mv (.t 103)⟩] [2, 3, 6])))))
  (.seq (.reg none [⟨(some 4), none, .mv (.k (V.b true))⟩] [4])
  (.ret)))))
def rv35 : List RV := [.t 4]
/-- loop.example/g03014/impl.copyItems -/
def ir109 : J :=
  .seq (.reg none [⟨(some 2), none, .mv (.k (.c (.n 2)))⟩] [0])
  (.seq (.reg none [⟨(some 3), none, .bsl 2 []⟩,
     ⟨(some 4), none, .mv (.t 0)⟩,
     ⟨(some 5), none, .app 2 16 false (.t 3) (.t 4)⟩,
     ⟨(some 2), none, .mv (.t 5)⟩] [2])
  (.ret))
def rv109 : List RV := [.t 2]
/-- loop.example/g03014/impl.copyCentre -/
def ir94 : J :=
  .seq (.reg none [⟨(some 1), none, .box (.t 0)⟩,
     ⟨(some 2), none, .alloc [.n 2, .n 3, .n 2, .n 1, .r (.v (.int .i64 0))]⟩] [1, 2])
  (.seq (.reg (some [[], [0], [0, 1], [], [], [4], [0, 1, 2, 3, 4, 5], [], [7], [0, 1, 2, 3, 4, 5, 6, 7, 8], [], [0, 1, 2, 3, 4, 5, 6, 7, 8, 9, 10]]) [⟨(some 8), none, .fa 0 (.t 1)⟩,
     ⟨(some 9), none, .ld false 1 (.t 8)⟩,
     ⟨(some 10), none, .call 109 true [(.t 9)]⟩,
     ⟨(some 11), none, .bsl 1 []⟩,
     ⟨(some 12), none, .fa 3 (.t 1)⟩,
     ⟨(some 13), none, .ld false 1 (.t 12)⟩,
     ⟨(some 14), none, .app 1 8 false (.t 11) (.t 13)⟩,
     ⟨(some 15), none, .fa 4 (.t 1)⟩,
     ⟨(some 16), none, .ld false 1 (.t 15)⟩,
     ⟨(some 17), none, .bld [.n 2, .n 3, .n 2, .n 1, .r (.v (.int .i64 0))] [(0, 1, (.t 10)), (3, 1, (.t 14)), (4, 1, (.t 16))]⟩,
     ⟨(some 3), none, .alloc [.n 2, .n 3, .n 2, .n 1, .r (.v (.int .i64 0))]⟩,
     ⟨none, none, .st 5 (.t 3) (.t 17)⟩] [1, 2, 3])
  (.seq (.seq (.reg none [⟨(some 18), none, .fa 1 (.t 1)⟩,
      ⟨(some 19), none, .ld false 1 (.t 18)⟩,
      ⟨(some 20), none, .len false (.t 19)⟩,
      ⟨(some 21), none, .mv (.k (V.i 0))⟩] [1, 2, 3, 19, 20, 21])
   (.bl 0 (.seq (.reg none [⟨(some 22), none, .bin .lss .i (.t 21) (.t 20)⟩] [1, 2, 3, 19, 20, 21, 22])
    (.seq (.cond (.t 22)
      (.skip)
      (.exit 0))
    (.seq (.block 1 (.seq (.reg none [⟨(some 23), none, .ia 3 (.t 19) (.t 21)⟩,
         ⟨(some 24), none, .ld true 3 (.t 23)⟩,
         ⟨(some 5), none, .alloc [.r (.v (.int .i64 0)), .r (.v (.int .i64 0)), .n 2]⟩,
         ⟨none, none, .st 3 (.t 5) (.t 24)⟩] [1, 2, 3, 5, 19, 20, 21])
      (.reg (some [[], [0], [], [2], [], [4], [], [6], [6, 7], [2, 3, 4, 5, 6, 7, 8], [2, 3, 4, 5, 6, 7, 8, 9], [0, 1, 2, 3, 4, 5, 6, 7, 8, 9, 10], [0, 1, 2, 3, 4, 5, 6, 7, 8, 9, 10, 11], [0, 1, 2, 3, 4, 5, 6, 7, 8, 9, 10, 11, 12]]) [⟨(some 25), none, .fa 1 (.t 3)⟩,
        ⟨(some 26), none, .ld false 1 (.t 25)⟩,
        ⟨(some 27), none, .fa 0 (.t 5)⟩,
        ⟨(some 28), none, .ld false 1 (.t 27)⟩,
        ⟨(some 29), none, .fa 1 (.t 5)⟩,
        ⟨(some 30), none, .ld false 1 (.t 29)⟩,
        ⟨(some 31), none, .fa 2 (.t 5)⟩,
        ⟨(some 32), none, .ld false 1 (.t 31)⟩,
        ⟨(some 33), none, .call 109 true [(.t 32)]⟩,
        ⟨(some 34), none, .bld [.r (.v (.int .i64 0)), .r (.v (.int .i64 0)), .n 2] [(0, 1, (.t 28)), (1, 1, (.t 30)), (2, 1, (.t 33))]⟩,
        ⟨(some 35), none, .bsl 3 [(.t 34)]⟩,
        ⟨(some 36), none, .app 3 40 true (.t 26) (.t 35)⟩,
        ⟨(some 37), none, .fa 1 (.t 3)⟩,
        ⟨none, none, .st 1 (.t 37) (.t 36)⟩] [1, 2, 3, 19, 20, 21])))
    (.reg none [⟨(some 38), none, .bin .add .i (.t 21) (.k (V.i 1))⟩,
      ⟨(some 21), none, .mv (.t 38)⟩] [1, 2, 3, 19, 20, 21]))))))
  (.seq (.seq (.reg none [⟨(some 39), none, .fa 2 (.t 1)⟩,
      ⟨(some 40), none, .ld false 1 (.t 39)⟩,
      ⟨(some 41), none, .len false (.t 40)⟩,
      ⟨(some 42), none, .mv (.k (V.i 0))⟩] [2, 3, 40, 41, 42])
   (.bl 2 (.seq (.reg none [⟨(some 43), none, .bin .lss .i (.t 42) (.t 41)⟩] [2, 3, 40, 41, 42, 43])
    (.seq (.cond (.t 43)
      (.skip)
      (.exit 2))
    (.seq (.block 3 (.seq (.reg none [⟨(some 44), none, .ia 2 (.t 40) (.t 42)⟩,
         ⟨(some 45), none, .ld true 2 (.t 44)⟩,
         ⟨(some 7), none, .alloc [.r (.v (.int .i64 0)), .n 2]⟩,
         ⟨none, none, .st 2 (.t 7) (.t 45)⟩] [2, 3, 7, 40, 41, 42])
      (.reg (some [[], [0], [], [2], [], [4], [4, 5], [2, 3, 4, 5, 6], [2, 3, 4, 5, 6, 7], [0, 1, 2, 3, 4, 5, 6, 7, 8], [0, 1, 2, 3, 4, 5, 6, 7, 8, 9], [0, 1, 2, 3, 4, 5, 6, 7, 8, 9, 10]]) [⟨(some 46), none, .fa 2 (.t 3)⟩,
        ⟨(some 47), none, .ld false 1 (.t 46)⟩,
        ⟨(some 48), none, .fa 0 (.t 7)⟩,
        ⟨(some 49), none, .ld false 1 (.t 48)⟩,
        ⟨(some 50), none, .fa 1 (.t 7)⟩,
        ⟨(some 51), none, .ld false 1 (.t 50)⟩,
        ⟨(some 52), none, .call 109 true [(.t 51)]⟩,
        ⟨(some 53), none, .bld [.r (.v (.int .i64 0)), .n 2] [(0, 1, (.t 49)), (1, 1, (.t 52))]⟩,
        ⟨(some 54), none, .bsl 2 [(.t 53)]⟩,
        ⟨(some 55), none, .app 2 32 true (.t 47) (.t 54)⟩,
        ⟨(some 56), none, .fa 2 (.t 3)⟩,
        ⟨none, none, .st 1 (.t 56) (.t 55)⟩] [2, 3, 40, 41, 42])))
    (.reg none [⟨(some 57), none, .bin .add .i (.t 42) (.k (V.i 1))⟩,
      ⟨(some 42), none, .mv (.t 57)⟩] [2, 3, 40, 41, 42]))))))
  (.seq (.reg none [⟨(some 58), none, .ld true 5 (.t 3)⟩,
     ⟨none, none, .st 5 (.t 2) (.t 58)⟩] [2])
  (.ret)))))
def rv94 : List RV := [.c 2 true 5]
/-- loop.example/g03014/laws.at -/
def ir39 : J :=
  .seq (.reg none [⟨(some 4), none, .mv (.k (V.i 0))⟩] [0, 1])
  (.seq (.seq (.reg none [⟨(some 5), none, .mv (.t 1)⟩,
      ⟨(some 6), none, .mv (.t 0)⟩,
      ⟨(some 7), none, .len false (.t 6)⟩,
      ⟨(some 8), none, .bin .geq .i (.t 5) (.t 7)⟩] [0, 1, 8])
   (.cond (.t 8)
    (.seq (.reg none [⟨(some 4), none, .mv (.k (V.i 0))⟩] [4])
     (.ret))
    (.skip)))
  (.seq (.reg none [⟨(some 9), none, .mv (.t 0)⟩,
     ⟨(some 10), none, .mv (.t 1)⟩,
     ⟨(some 11), none, .ia 1 (.t 9) (.t 10)⟩,
     ⟨(some 12), none, .ld false 1 (.t 11)⟩,
     ⟨(some 13), none, .cvt .i64 (.t 12)⟩,
     ⟨(some 4), none, .mv (.t 13)⟩] [4])
  (.ret)))
def rv39 : List RV := [.t 4]
/-- loop.example/g03014/spec.CellsTo -/
def ir42 : J :=
  .seq (.reg none [⟨(some 3), none, .box (.t 0)⟩,
     ⟨(some 6), none, .mv (.k (V.i 0))⟩] [1, 2, 3])
  (.seq (.seq (.reg none [⟨(some 8), none, .ld true 5 (.t 3)⟩,
      ⟨(some 9), none, .call 31 true [(.t 8)]⟩,
      ⟨(some 10), none, .not (.t 9)⟩,
      ⟨(some 11), none, .mv (.t 10)⟩,
      ⟨(some 12), (some (11, false)), .mv (.t 1)⟩,
      ⟨(some 13), (some (11, false)), .fa 0 (.t 3)⟩,
      ⟨(some 14), (some (11, false)), .ld false 1 (.t 13)⟩,
      ⟨(some 15), (some (11, false)), .len false (.t 14)⟩,
      ⟨(some 16), (some (11, false)), .bin .sub .i (.t 15) (.k (V.i 1))⟩,
      ⟨(some 17), (some (11, false)), .call 85 true [(.t 12), (.k (V.i 0)), (.t 16)]⟩,
      ⟨(some 18), (some (11, false)), .not (.t 17)⟩,
      ⟨(some 19), none, .pick (.t 11) (.k (V.b true)) (.t 18)⟩,
      ⟨(some 20), none, .mv (.t 19)⟩,
      ⟨(some 21), (some (20, false)), .mv (.t 2)⟩,
      ⟨(some 22), (some (20, false)), .fa 1 (.t 3)⟩,
      ⟨(some 23), (some (20, false)), .ld false 1 (.t 22)⟩,
      ⟨(some 24), (some (20, false)), .len false (.t 23)⟩,
      ⟨(some 25), (some (20, false)), .bin .sub .i (.t 24) (.k (V.i 1))⟩,
      ⟨(some 26), (some (20, false)), .call 85 true [(.t 21), (.k (V.i 0)), (.t 25)]⟩,
      ⟨(some 27), (some (20, false)), .not (.t 26)⟩,
      ⟨(some 28), none, .pick (.t 20) (.k (V.b true)) (.t 27)⟩] [1, 2, 3, 28])
   (.cond (.t 28)
    (.seq (.reg none [⟨(some 6), none, .mv (.k (V.i (-1)))⟩] [6])
     (.ret))
    (.skip)))
  (.seq (.reg none [⟨(some 29), none, .fa 1 (.t 3)⟩,
     ⟨(some 30), none, .ld false 1 (.t 29)⟩,
     ⟨(some 31), none, .mv (.t 2)⟩,
     ⟨(some 32), none, .ia 3 (.t 30) (.t 31)⟩,
     ⟨(some 33), none, .fa 0 (.t 32)⟩,
     ⟨(some 34), none, .ld false 1 (.t 33)⟩,
     ⟨(some 35), none, .mv (.t 1)⟩,
     ⟨(some 36), none, .bin .sub .i (.t 34) (.t 35)⟩,
     ⟨(some 7), none, .mv (.t 36)⟩] [3, 7])
  (.seq (.seq (.reg none [⟨(some 37), none, .mv (.t 7)⟩,
      ⟨(some 38), none, .bin .leq .i (.t 37) (.k (V.i 0))⟩] [3, 7, 38])
   (.cond (.t 38)
    (.seq (.reg none [⟨(some 39), none, .mv (.t 7)⟩,
        ⟨(some 40), none, .fa 0 (.t 3)⟩,
        ⟨(some 41), none, .ld false 1 (.t 40)⟩,
        ⟨(some 42), none, .len false (.t 41)⟩,
        ⟨(some 43), none, .bin .add .i (.t 39) (.t 42)⟩,
        ⟨(some 6), none, .mv (.t 43)⟩] [6])
     (.ret))
    (.skip)))
  (.seq (.reg none [⟨(some 44), none, .mv (.t 7)⟩,
     ⟨(some 6), none, .mv (.t 44)⟩] [6])
  (.ret)))))
def rv42 : List RV := [.t 6]
/-- loop.example/g03014/laws.heldItemS -/
def ir66 : J :=
  .seq (.reg none [⟨(some 4), none, .mv (.k (V.i 0))⟩] [0, 1])
  (.seq (.seq (.reg none [⟨(some 5), none, .mv (.k (V.i 0))⟩] [0, 1, 5])
   (.bl 0 (.seq (.seq (.reg none [⟨(some 6), none, .mv (.t 5)⟩,
        ⟨(some 7), none, .mv (.t 0)⟩,
        ⟨(some 8), none, .len false (.t 7)⟩,
        ⟨(some 9), none, .bin .lss .i (.t 6) (.t 8)⟩] [0, 1, 5, 9])
     (.cond (.t 9)
      (.skip)
      (.exit 0)))
    (.seq (.block 1 (.seq (.seq (.reg none [⟨(some 12), none, .mv (.t 0)⟩,
          ⟨(some 13), none, .mv (.t 5)⟩,
          ⟨(some 14), none, .ia 2 (.t 12) (.t 13)⟩,
          ⟨(some 15), none, .fa 0 (.t 14)⟩,
          ⟨(some 16), none, .ld false 1 (.t 15)⟩,
          ⟨(some 17), none, .mv (.t 1)⟩,
          ⟨(some 18), none, .bin .neq .i (.t 16) (.t 17)⟩] [0, 1, 5, 18])
       (.cond (.t 18)
        (.seq (.reg none [⟨(some 4), none, .mv (.k (V.i (-1)))⟩] [4])
         (.ret))
        (.skip)))
      (.seq (.reg none [⟨(some 19), none, .mv (.t 1)⟩,
         ⟨(some 20), none, .bin .add .i (.t 19) (.k (V.i 1))⟩,
         ⟨(some 1), none, .mv (.t 20)⟩] [0, 1, 5])
      (.seq (.seq (.reg none [⟨(some 21), none, .mv (.t 0)⟩,
          ⟨(some 22), none, .mv (.t 5)⟩,
          ⟨(some 23), none, .ia 2 (.t 21) (.t 22)⟩,
          ⟨(some 24), none, .fa 1 (.t 23)⟩,
          ⟨(some 25), none, .ld false 1 (.t 24)⟩,
          ⟨(some 26), none, .mv (.t 1)⟩,
          ⟨(some 27), none, .bin .neq .i (.t 25) (.t 26)⟩] [0, 1, 5, 27])
       (.cond (.t 27)
        (.seq (.reg none [⟨(some 4), none, .mv (.k (V.i (-1)))⟩] [4])
         (.ret))
        (.skip)))
      (.reg none [⟨(some 28), none, .mv (.t 1)⟩,
        ⟨(some 29), none, .bin .add .i (.t 28) (.k (V.i 1))⟩,
        ⟨(some 1), none, .mv (.t 29)⟩] [0, 1, 5])))))
    (.reg none [⟨(some 10), none, .mv (.t 5)⟩,
      ⟨(some 11), none, .bin .add .i (.t 10) (.k (V.i 1))⟩,
      ⟨(some 5), none, .mv (.t 11)⟩] [0, 1, 5])))))
  (.seq (.reg none [⟨(some 30), none, .mv (.t 1)⟩,
     ⟨(some 4), none, .mv (.t 30)⟩] [4])
  (.ret)))
def rv66 : List RV := [.t 4]
/-- loop.example/g03014/laws.heldIntS -/
def ir75 : J :=
  .seq (.reg none [⟨(some 4), none, .mv (.k (V.i 0))⟩] [0, 1])
  (.seq (.seq (.reg none [⟨(some 5), none, .mv (.k (V.i 0))⟩] [0, 1, 5])
   (.bl 0 (.seq (.seq (.reg none [⟨(some 6), none, .mv (.t 5)⟩,
        ⟨(some 7), none, .mv (.t 0)⟩,
        ⟨(some 8), none, .len false (.t 7)⟩,
        ⟨(some 9), none, .bin .lss .i (.t 6) (.t 8)⟩] [0, 1, 5, 9])
     (.cond (.t 9)
      (.skip)
      (.exit 0)))
    (.seq (.block 1 (.seq (.seq (.reg none [⟨(some 12), none, .mv (.t 0)⟩,
          ⟨(some 13), none, .mv (.t 5)⟩,
          ⟨(some 14), none, .ia 1 (.t 12) (.t 13)⟩,
          ⟨(some 15), none, .ld false 1 (.t 14)⟩,
          ⟨(some 16), none, .mv (.t 1)⟩,
          ⟨(some 17), none, .bin .neq .i (.t 15) (.t 16)⟩] [0, 1, 5, 17])
       (.cond (.t 17)
        (.seq (.reg none [⟨(some 4), none, .mv (.k (V.i (-1)))⟩] [4])
         (.ret))
        (.skip)))
      (.reg none [⟨(some 18), none, .mv (.t 1)⟩,
        ⟨(some 19), none, .bin .add .i (.t 18) (.k (V.i 1))⟩,
        ⟨(some 1), none, .mv (.t 19)⟩] [0, 1, 5])))
    (.reg none [⟨(some 10), none, .mv (.t 5)⟩,
      ⟨(some 11), none, .bin .add .i (.t 10) (.k (V.i 1))⟩,
      ⟨(some 5), none, .mv (.t 11)⟩] [0, 1, 5])))))
  (.seq (.reg none [⟨(some 20), none, .mv (.t 1)⟩,
     ⟨(some 4), none, .mv (.t 20)⟩] [4])
  (.ret)))
def rv75 : List RV := [.t 4]
/-- loop.example/g03014/laws.heldChuteS -/
def ir99 : J :=
  .seq (.reg none [⟨(some 4), none, .mv (.k (V.i 0))⟩] [0, 1])
  (.seq (.seq (.reg none [⟨(some 5), none, .mv (.k (V.i 0))⟩] [0, 1, 5])
   (.bl 0 (.seq (.seq (.reg none [⟨(some 6), none, .mv (.t 5)⟩,
        ⟨(some 7), none, .mv (.t 0)⟩,
        ⟨(some 8), none, .len false (.t 7)⟩,
        ⟨(some 9), none, .bin .lss .i (.t 6) (.t 8)⟩] [0, 1, 5, 9])
     (.cond (.t 9)
      (.skip)
      (.exit 0)))
    (.seq (.block 1 (.seq (.seq (.reg none [⟨(some 12), none, .mv (.t 0)⟩,
          ⟨(some 13), none, .mv (.t 5)⟩,
          ⟨(some 14), none, .ia 3 (.t 12) (.t 13)⟩,
          ⟨(some 15), none, .fa 0 (.t 14)⟩,
          ⟨(some 16), none, .ld false 1 (.t 15)⟩,
          ⟨(some 17), none, .mv (.t 1)⟩,
          ⟨(some 18), none, .bin .neq .i (.t 16) (.t 17)⟩] [0, 1, 5, 18])
       (.cond (.t 18)
        (.seq (.reg none [⟨(some 4), none, .mv (.k (V.i (-1)))⟩] [4])
         (.ret))
        (.skip)))
      (.seq (.reg none [⟨(some 19), none, .mv (.t 1)⟩,
         ⟨(some 20), none, .bin .add .i (.t 19) (.k (V.i 1))⟩,
         ⟨(some 1), none, .mv (.t 20)⟩] [0, 1, 5])
      (.seq (.seq (.reg none [⟨(some 21), none, .mv (.t 0)⟩,
          ⟨(some 22), none, .mv (.t 5)⟩,
          ⟨(some 23), none, .ia 3 (.t 21) (.t 22)⟩,
          ⟨(some 24), none, .fa 1 (.t 23)⟩,
          ⟨(some 25), none, .ld false 1 (.t 24)⟩,
          ⟨(some 26), none, .mv (.t 1)⟩,
          ⟨(some 27), none, .bin .neq .i (.t 25) (.t 26)⟩] [0, 1, 5, 27])
       (.cond (.t 27)
        (.seq (.reg none [⟨(some 4), none, .mv (.k (V.i (-1)))⟩] [4])
         (.ret))
        (.skip)))
      (.seq (.reg none [⟨(some 28), none, .mv (.t 1)⟩,
         ⟨(some 29), none, .bin .add .i (.t 28) (.k (V.i 1))⟩,
         ⟨(some 1), none, .mv (.t 29)⟩] [0, 1, 5])
      (.seq (.reg none [⟨(some 30), none, .mv (.t 0)⟩,
         ⟨(some 31), none, .mv (.t 5)⟩,
         ⟨(some 32), none, .ia 3 (.t 30) (.t 31)⟩,
         ⟨(some 33), none, .fa 2 (.t 32)⟩,
         ⟨(some 34), none, .ld false 1 (.t 33)⟩,
         ⟨(some 35), none, .mv (.t 1)⟩,
         ⟨(some 36), none, .call 66 true [(.t 34), (.t 35)]⟩,
         ⟨(some 1), none, .mv (.t 36)⟩] [0, 1, 5])
      (.seq (.reg none [⟨(some 37), none, .mv (.t 1)⟩,
         ⟨(some 38), none, .bin .lss .i (.t 37) (.k (V.i 0))⟩] [0, 1, 5, 38])
      (.cond (.t 38)
       (.seq (.reg none [⟨(some 4), none, .mv (.k (V.i (-1)))⟩] [4])
        (.ret))
       (.skip)))))))))
    (.reg none [⟨(some 10), none, .mv (.t 5)⟩,
      ⟨(some 11), none, .bin .add .i (.t 10) (.k (V.i 1))⟩,
      ⟨(some 5), none, .mv (.t 11)⟩] [0, 1, 5])))))
  (.seq (.reg none [⟨(some 39), none, .mv (.t 1)⟩,
     ⟨(some 4), none, .mv (.t 39)⟩] [4])
  (.ret)))
def rv99 : List RV := [.t 4]
/-- loop.example/g03014/laws.heldInletS -/
def ir100 : J :=
  .seq (.reg none [⟨(some 4), none, .mv (.k (V.i 0))⟩] [0, 1])
  (.seq (.seq (.reg none [⟨(some 5), none, .mv (.k (V.i 0))⟩] [0, 1, 5])
   (.bl 0 (.seq (.seq (.reg none [⟨(some 6), none, .mv (.t 5)⟩,
        ⟨(some 7), none, .mv (.t 0)⟩,
        ⟨(some 8), none, .len false (.t 7)⟩,
        ⟨(some 9), none, .bin .lss .i (.t 6) (.t 8)⟩] [0, 1, 5, 9])
     (.cond (.t 9)
      (.skip)
      (.exit 0)))
    (.seq (.block 1 (.seq (.seq (.reg none [⟨(some 12), none, .mv (.t 0)⟩,
          ⟨(some 13), none, .mv (.t 5)⟩,
          ⟨(some 14), none, .ia 2 (.t 12) (.t 13)⟩,
          ⟨(some 15), none, .fa 0 (.t 14)⟩,
          ⟨(some 16), none, .ld false 1 (.t 15)⟩,
          ⟨(some 17), none, .mv (.t 1)⟩,
          ⟨(some 18), none, .bin .neq .i (.t 16) (.t 17)⟩] [0, 1, 5, 18])
       (.cond (.t 18)
        (.seq (.reg none [⟨(some 4), none, .mv (.k (V.i (-1)))⟩] [4])
         (.ret))
        (.skip)))
      (.seq (.reg none [⟨(some 19), none, .mv (.t 1)⟩,
         ⟨(some 20), none, .bin .add .i (.t 19) (.k (V.i 1))⟩,
         ⟨(some 1), none, .mv (.t 20)⟩] [0, 1, 5])
      (.seq (.reg none [⟨(some 21), none, .mv (.t 0)⟩,
         ⟨(some 22), none, .mv (.t 5)⟩,
         ⟨(some 23), none, .ia 2 (.t 21) (.t 22)⟩,
         ⟨(some 24), none, .fa 1 (.t 23)⟩,
         ⟨(some 25), none, .ld false 1 (.t 24)⟩,
         ⟨(some 26), none, .mv (.t 1)⟩,
         ⟨(some 27), none, .call 66 true [(.t 25), (.t 26)]⟩,
         ⟨(some 1), none, .mv (.t 27)⟩] [0, 1, 5])
      (.seq (.reg none [⟨(some 28), none, .mv (.t 1)⟩,
         ⟨(some 29), none, .bin .lss .i (.t 28) (.k (V.i 0))⟩] [0, 1, 5, 29])
      (.cond (.t 29)
       (.seq (.reg none [⟨(some 4), none, .mv (.k (V.i (-1)))⟩] [4])
        (.ret))
       (.skip)))))))
    (.reg none [⟨(some 10), none, .mv (.t 5)⟩,
      ⟨(some 11), none, .bin .add .i (.t 10) (.k (V.i 1))⟩,
      ⟨(some 5), none, .mv (.t 11)⟩] [0, 1, 5])))))
  (.seq (.reg none [⟨(some 30), none, .mv (.t 1)⟩,
     ⟨(some 4), none, .mv (.t 30)⟩] [4])
  (.ret)))
def rv100 : List RV := [.t 4]
/-- loop.example/g03014/laws.heldCentre -/
def ir50 : J :=
  .seq (.reg none [⟨(some 2), none, .box (.t 0)⟩,
     ⟨(some 4), none, .mv (.k (V.i 0))⟩] [1, 2])
  (.seq (.reg none [⟨(some 5), none, .fa 0 (.t 2)⟩,
     ⟨(some 6), none, .ld false 1 (.t 5)⟩,
     ⟨(some 7), none, .mv (.t 1)⟩,
     ⟨(some 8), none, .call 66 true [(.t 6), (.t 7)]⟩,
     ⟨(some 1), none, .mv (.t 8)⟩] [1, 2])
  (.seq (.seq (.reg none [⟨(some 9), none, .mv (.t 1)⟩,
      ⟨(some 10), none, .bin .lss .i (.t 9) (.k (V.i 0))⟩] [1, 2, 10])
   (.cond (.t 10)
    (.seq (.reg none [⟨(some 4), none, .mv (.k (V.i (-1)))⟩] [4])
     (.ret))
    (.skip)))
  (.seq (.reg none [⟨(some 11), none, .fa 1 (.t 2)⟩,
     ⟨(some 12), none, .ld false 1 (.t 11)⟩,
     ⟨(some 13), none, .mv (.t 1)⟩,
     ⟨(some 14), none, .call 99 true [(.t 12), (.t 13)]⟩,
     ⟨(some 1), none, .mv (.t 14)⟩] [1, 2])
  (.seq (.seq (.reg none [⟨(some 15), none, .mv (.t 1)⟩,
      ⟨(some 16), none, .bin .lss .i (.t 15) (.k (V.i 0))⟩] [1, 2, 16])
   (.cond (.t 16)
    (.seq (.reg none [⟨(some 4), none, .mv (.k (V.i (-1)))⟩] [4])
     (.ret))
    (.skip)))
  (.seq (.reg none [⟨(some 17), none, .fa 2 (.t 2)⟩,
     ⟨(some 18), none, .ld false 1 (.t 17)⟩,
     ⟨(some 19), none, .mv (.t 1)⟩,
     ⟨(some 20), none, .call 100 true [(.t 18), (.t 19)]⟩,
     ⟨(some 1), none, .mv (.t 20)⟩] [1, 2])
  (.seq (.seq (.reg none [⟨(some 21), none, .mv (.t 1)⟩,
      ⟨(some 22), none, .bin .lss .i (.t 21) (.k (V.i 0))⟩] [1, 2, 22])
   (.cond (.t 22)
    (.seq (.reg none [⟨(some 4), none, .mv (.k (V.i (-1)))⟩] [4])
     (.ret))
    (.skip)))
  (.seq (.reg none [⟨(some 23), none, .fa 3 (.t 2)⟩,
     ⟨(some 24), none, .ld false 1 (.t 23)⟩,
     ⟨(some 25), none, .mv (.t 1)⟩,
     ⟨(some 26), none, .call 75 true [(.t 24), (.t 25)]⟩,
     ⟨(some 1), none, .mv (.t 26)⟩] [1])
  (.seq (.seq (.reg none [⟨(some 27), none, .mv (.t 1)⟩,
      ⟨(some 28), none, .bin .lss .i (.t 27) (.k (V.i 0))⟩] [1, 28])
   (.cond (.t 28)
    (.seq (.reg none [⟨(some 4), none, .mv (.k (V.i (-1)))⟩] [4])
     (.ret))
    (.skip)))
  (.seq (.reg none [⟨(some 29), none, .mv (.t 1)⟩,
     ⟨(some 4), none, .mv (.t 29)⟩] [4])
  (.ret))))))))))
def rv50 : List RV := [.t 4]
/-- loop.example/g03014/impl.hasItem -/
def ir102 : J :=
  .seq (.reg none [⟨(some 4), none, .mv (.k (V.b false))⟩] [0, 1])
  (.seq (.seq (.reg none [⟨(some 7), none, .mv (.t 0)⟩,
      ⟨(some 8), none, .len false (.t 7)⟩,
      ⟨(some 9), none, .mv (.k (V.i 0))⟩] [1, 7, 8, 9])
   (.bl 0 (.seq (.reg none [⟨(some 10), none, .bin .lss .i (.t 9) (.t 8)⟩] [1, 7, 8, 9, 10])
    (.seq (.cond (.t 10)
      (.skip)
      (.exit 0))
    (.seq (.block 1 (.seq (.reg none [⟨(some 11), none, .ia 2 (.t 7) (.t 9)⟩,
         ⟨(some 12), none, .ld true 2 (.t 11)⟩,
         ⟨(some 6), none, .alloc [.r (.v (.int .i64 0)), .r (.v (.int .i64 0))]⟩,
         ⟨none, none, .st 2 (.t 6) (.t 12)⟩] [1, 6, 7, 8, 9])
      (.seq (.reg none [⟨(some 13), none, .fa 0 (.t 6)⟩,
         ⟨(some 14), none, .ld false 1 (.t 13)⟩,
         ⟨(some 15), none, .mv (.t 1)⟩,
         ⟨(some 16), none, .bin .eql .i (.t 14) (.t 15)⟩] [1, 7, 8, 9, 16])
      (.cond (.t 16)
       (.seq (.reg none [⟨(some 4), none, .mv (.k (V.b true))⟩] [4])
        (.ret))
       (.skip)))))
    (.reg none [⟨(some 17), none, .bin .add .i (.t 9) (.k (V.i 1))⟩,
      ⟨(some 9), none, .mv (.t 17)⟩] [1, 7, 8, 9]))))))
  (.seq (.reg none [⟨(some 4), none, .mv (.k (V.b false))⟩] [4])
  (.ret)))
def rv102 : List RV := [.t 4]
/-- loop.example/g03014/spec.IsDrained -/
def ir57 : J :=
  .seq (.reg none [⟨(some 1), none, .box (.t 0)⟩,
     ⟨(some 2), none, .mv (.k (V.b false))⟩] [1])
  (.seq (.reg none [⟨(some 3), none, .ld true 5 (.t 1)⟩,
     ⟨(some 4), none, .call 31 true [(.t 3)]⟩,
     ⟨(some 5), none, .mv (.t 4)⟩,
     ⟨(some 6), (some (5, true)), .ld true 5 (.t 1)⟩,
     ⟨(some 7), (some (5, true)), .call 29 true [(.t 6)]⟩,
     ⟨(some 8), (some (5, true)), .bin .eql .i (.t 7) (.k (V.i 0))⟩,
     ⟨(some 9), none, .pick (.t 5) (.t 8) (.k (V.b false))⟩,
     ⟨(some 10), none, .mv (.t 9)⟩,
     ⟨(some 11), (some (10, true)), .ld true 5 (.t 1)⟩,
     ⟨(some 12), (some (10, true)), .call 25 true [(.t 11)]⟩,
     ⟨(some 13), (some (10, true)), .bin .eql .i (.t 12) (.k (V.i 0))⟩,
     ⟨(some 14), none, .pick (.t 10) (.t 13) (.k (V.b false))⟩,
     ⟨(some 2), none, .mv (.t 14)⟩] [2])
  (.ret))
def rv57 : List RV := [.t 2]
/-- loop.example/g03014/spec.l7Find -/
def ir105 : J :=
  .seq (.reg none [⟨(some 4), none, .mv (.k (V.b false))⟩] [0, 1])
  (.seq (.seq (.reg none [⟨(some 5), none, .mv (.k (V.i 0))⟩] [0, 1, 5])
   (.bl 0 (.seq (.seq (.reg none [⟨(some 6), none, .mv (.t 5)⟩,
        ⟨(some 7), none, .mv (.t 0)⟩,
        ⟨(some 8), none, .len false (.t 7)⟩,
        ⟨(some 9), none, .bin .lss .i (.t 6) (.t 8)⟩] [0, 1, 5, 9])
     (.cond (.t 9)
      (.skip)
      (.exit 0)))
    (.seq (.block 1 (.seq (.reg none [⟨(some 12), none, .mv (.t 0)⟩,
         ⟨(some 13), none, .mv (.t 5)⟩,
         ⟨(some 14), none, .ia 2 (.t 12) (.t 13)⟩,
         ⟨(some 15), none, .fa 0 (.t 14)⟩,
         ⟨(some 16), none, .ld false 1 (.t 15)⟩,
         ⟨(some 17), none, .mv (.t 1)⟩,
         ⟨(some 18), none, .bin .eql .i (.t 16) (.t 17)⟩] [0, 1, 5, 18])
      (.cond (.t 18)
       (.seq (.reg none [⟨(some 4), none, .mv (.k (V.b true))⟩] [4])
        (.ret))
       (.skip))))
    (.reg none [⟨(some 10), none, .mv (.t 5)⟩,
      ⟨(some 11), none, .bin .add .i (.t 10) (.k (V.i 1))⟩,
      ⟨(some 5), none, .mv (.t 11)⟩] [0, 1, 5])))))
  (.seq (.reg none [⟨(some 4), none, .mv (.k (V.b false))⟩] [4])
  (.ret)))
def rv105 : List RV := [.t 4]
/-- loop.example/g03014/spec.WhereIs -/
def ir59 : J :=
  .seq (.reg none [⟨(some 2), none, .box (.t 0)⟩,
     ⟨(some 4), none, .mv (.k (V.i 0))⟩,
     ⟨(some 5), none, .mv (.k (V.i 0))⟩] [1, 2])
  (.seq (.seq (.reg none [⟨(some 9), none, .ld true 5 (.t 2)⟩,
      ⟨(some 10), none, .call 31 true [(.t 9)]⟩,
      ⟨(some 11), none, .not (.t 10)⟩,
      ⟨(some 12), none, .mv (.t 11)⟩,
      ⟨(some 13), (some (12, false)), .mv (.t 1)⟩,
      ⟨(some 14), (some (12, false)), .bin .eql .i (.t 13) (.k (V.i 0))⟩,
      ⟨(some 15), none, .pick (.t 12) (.k (V.b true)) (.t 14)⟩] [1, 2, 15])
   (.cond (.t 15)
    (.seq (.reg none [⟨(some 4), none, .mv (.k (V.i 0))⟩,
        ⟨(some 5), none, .mv (.k (V.i 0))⟩] [4, 5])
     (.ret))
    (.skip)))
  (.seq (.seq (.reg none [⟨(some 6), none, .mv (.k (V.i 0))⟩] [1, 2, 6])
   (.bl 0 (.seq (.seq (.reg none [⟨(some 16), none, .mv (.t 6)⟩,
        ⟨(some 17), none, .fa 0 (.t 2)⟩,
        ⟨(some 18), none, .ld false 1 (.t 17)⟩,
        ⟨(some 19), none, .len false (.t 18)⟩,
        ⟨(some 20), none, .bin .lss .i (.t 16) (.t 19)⟩] [1, 2, 6, 20])
     (.cond (.t 20)
      (.skip)
      (.exit 0)))
    (.seq (.block 1 (.seq (.reg none [⟨(some 23), none, .fa 0 (.t 2)⟩,
         ⟨(some 24), none, .ld false 1 (.t 23)⟩,
         ⟨(some 25), none, .mv (.t 6)⟩,
         ⟨(some 26), none, .ia 2 (.t 24) (.t 25)⟩,
         ⟨(some 27), none, .fa 0 (.t 26)⟩,
         ⟨(some 28), none, .ld false 1 (.t 27)⟩,
         ⟨(some 29), none, .mv (.t 1)⟩,
         ⟨(some 30), none, .bin .eql .i (.t 28) (.t 29)⟩] [1, 2, 6, 30])
      (.cond (.t 30)
       (.seq (.reg none [⟨(some 31), none, .mv (.t 6)⟩,
           ⟨(some 4), none, .mv (.k (V.i 1))⟩,
           ⟨(some 5), none, .mv (.t 31)⟩] [4, 5])
        (.ret))
       (.skip))))
    (.reg none [⟨(some 21), none, .mv (.t 6)⟩,
      ⟨(some 22), none, .bin .add .i (.t 21) (.k (V.i 1))⟩,
      ⟨(some 6), none, .mv (.t 22)⟩] [1, 2, 6])))))
  (.seq (.seq (.reg none [⟨(some 7), none, .mv (.k (V.i 0))⟩] [1, 2, 7])
   (.bl 2 (.seq (.seq (.reg none [⟨(some 32), none, .mv (.t 7)⟩,
        ⟨(some 33), none, .fa 1 (.t 2)⟩,
        ⟨(some 34), none, .ld false 1 (.t 33)⟩,
        ⟨(some 35), none, .len false (.t 34)⟩,
        ⟨(some 36), none, .bin .lss .i (.t 32) (.t 35)⟩] [1, 2, 7, 36])
     (.cond (.t 36)
      (.skip)
      (.exit 2)))
    (.seq (.block 3 (.seq (.reg none [⟨(some 39), none, .fa 1 (.t 2)⟩,
         ⟨(some 40), none, .ld false 1 (.t 39)⟩,
         ⟨(some 41), none, .mv (.t 7)⟩,
         ⟨(some 42), none, .ia 3 (.t 40) (.t 41)⟩,
         ⟨(some 43), none, .fa 2 (.t 42)⟩,
         ⟨(some 44), none, .ld false 1 (.t 43)⟩,
         ⟨(some 45), none, .mv (.t 1)⟩,
         ⟨(some 46), none, .call 105 true [(.t 44), (.t 45)]⟩] [1, 2, 7, 46])
      (.cond (.t 46)
       (.seq (.reg none [⟨(some 47), none, .mv (.t 7)⟩,
           ⟨(some 4), none, .mv (.k (V.i 2))⟩,
           ⟨(some 5), none, .mv (.t 47)⟩] [4, 5])
        (.ret))
       (.skip))))
    (.reg none [⟨(some 37), none, .mv (.t 7)⟩,
      ⟨(some 38), none, .bin .add .i (.t 37) (.k (V.i 1))⟩,
      ⟨(some 7), none, .mv (.t 38)⟩] [1, 2, 7])))))
  (.seq (.seq (.reg none [⟨(some 8), none, .mv (.k (V.i 0))⟩] [1, 2, 8])
   (.bl 4 (.seq (.seq (.reg none [⟨(some 48), none, .mv (.t 8)⟩,
        ⟨(some 49), none, .fa 2 (.t 2)⟩,
        ⟨(some 50), none, .ld false 1 (.t 49)⟩,
        ⟨(some 51), none, .len false (.t 50)⟩,
        ⟨(some 52), none, .bin .lss .i (.t 48) (.t 51)⟩] [1, 2, 8, 52])
     (.cond (.t 52)
      (.skip)
      (.exit 4)))
    (.seq (.block 5 (.seq (.reg none [⟨(some 55), none, .fa 2 (.t 2)⟩,
         ⟨(some 56), none, .ld false 1 (.t 55)⟩,
         ⟨(some 57), none, .mv (.t 8)⟩,
         ⟨(some 58), none, .ia 2 (.t 56) (.t 57)⟩,
         ⟨(some 59), none, .fa 1 (.t 58)⟩,
         ⟨(some 60), none, .ld false 1 (.t 59)⟩,
         ⟨(some 61), none, .mv (.t 1)⟩,
         ⟨(some 62), none, .call 105 true [(.t 60), (.t 61)]⟩] [1, 2, 8, 62])
      (.cond (.t 62)
       (.seq (.reg none [⟨(some 63), none, .mv (.t 8)⟩,
           ⟨(some 4), none, .mv (.k (V.i 3))⟩,
           ⟨(some 5), none, .mv (.t 63)⟩] [4, 5])
        (.ret))
       (.skip))))
    (.reg none [⟨(some 53), none, .mv (.t 8)⟩,
      ⟨(some 54), none, .bin .add .i (.t 53) (.k (V.i 1))⟩,
      ⟨(some 8), none, .mv (.t 54)⟩] [1, 2, 8])))))
  (.seq (.reg none [⟨(some 4), none, .mv (.k (V.i 0))⟩,
     ⟨(some 5), none, .mv (.k (V.i 0))⟩] [4, 5])
  (.ret))))))
def rv59 : List RV := [.t 4, .t 5]
/-- loop.example/g03014/spec.IsStuck -/
def ir60 : J :=
  .seq (.reg none [⟨(some 1), none, .box (.t 0)⟩,
     ⟨(some 2), none, .mv (.k (V.b false))⟩] [1])
  (.seq (.seq (.reg (some [[], [0], [0, 1], [0, 1, 2], [0, 1, 2, 3], [0, 1, 2, 3, 4], [0, 1, 2, 3, 4, 5], [0, 1, 2, 3, 4, 5, 6], [0, 1, 2, 3, 4, 5, 6, 7], [0, 1, 2, 3, 4, 5, 6, 7, 8], [0, 1, 2, 3, 4, 5, 6, 7, 8, 9], [0, 1, 2, 3, 4, 5, 6, 7, 8, 9, 10], [0, 1, 2, 3, 4, 5, 6, 7, 8, 9, 10, 11], [0, 1, 2, 3, 4, 5, 6, 7, 8, 9, 10, 11, 12], [0, 1, 2, 3, 4, 5, 6, 7, 8, 9, 10, 11], [0, 1, 2, 3, 4, 5, 6, 7, 8, 9, 10, 11, 14], [0, 1, 2, 3, 4, 5, 6, 7, 8, 9, 10, 11, 14, 15], [0, 1, 2, 3, 4, 5, 6, 7, 8, 9, 10, 11, 12, 13, 14, 15, 16], [0, 1, 2, 3, 4, 5, 6, 7, 8, 9, 10, 11, 12, 13, 14, 15, 16, 17], [0, 1, 2, 3, 4, 5, 6, 7, 8, 9, 10, 11, 12, 13, 14, 15, 16, 17, 18]]) [⟨(some 5), none, .ld true 5 (.t 1)⟩,
      ⟨(some 6), none, .call 31 true [(.t 5)]⟩,
      ⟨(some 7), none, .not (.t 6)⟩,
      ⟨(some 8), none, .mv (.t 7)⟩,
      ⟨(some 9), (some (8, false)), .ld true 5 (.t 1)⟩,
      ⟨(some 10), (some (8, false)), .call 57 true [(.t 9)]⟩,
      ⟨(some 11), none, .pick (.t 8) (.k (V.b true)) (.t 10)⟩,
      ⟨(some 12), none, .mv (.t 11)⟩,
      ⟨(some 13), (some (12, false)), .ld true 5 (.t 1)⟩,
      ⟨(some 14), (some (12, false)), .call 25 true [(.t 13)]⟩,
      ⟨(some 15), (some (12, false)), .bin .gtr .i (.t 14) (.k (V.i 0))⟩,
      ⟨(some 16), (some (12, false)), .mv (.t 15)⟩,
      ⟨(some 17), (some (16, true)), .ld true 5 (.t 1)⟩,
      ⟨(some 18), (some (16, true)), .call 29 true [(.t 17)]⟩,
      ⟨(some 19), (some (16, true)), .fa 0 (.t 1)⟩,
      ⟨(some 20), (some (16, true)), .ld false 1 (.t 19)⟩,
      ⟨(some 21), (some (16, true)), .len false (.t 20)⟩,
      ⟨(some 22), (some (16, true)), .bin .lss .i (.t 18) (.t 21)⟩,
      ⟨(some 23), (some (12, false)), .pick (.t 16) (.t 22) (.k (V.b false))⟩,
      ⟨(some 24), none, .pick (.t 12) (.k (V.b true)) (.t 23)⟩] [1, 24])
   (.cond (.t 24)
    (.seq (.reg none [⟨(some 2), none, .mv (.k (V.b false))⟩] [2])
     (.ret))
    (.skip)))
  (.seq (.seq (.reg none [⟨(some 3), none, .mv (.k (V.i 0))⟩] [1, 3])
   (.bl 0 (.seq (.seq (.reg none [⟨(some 25), none, .mv (.t 3)⟩,
        ⟨(some 26), none, .fa 0 (.t 1)⟩,
        ⟨(some 27), none, .ld false 1 (.t 26)⟩,
        ⟨(some 28), none, .len false (.t 27)⟩,
        ⟨(some 29), none, .bin .lss .i (.t 25) (.t 28)⟩] [1, 3, 29])
     (.cond (.t 29)
      (.skip)
      (.exit 0)))
    (.seq (.block 1 (.seq (.reg none [⟨(some 32), none, .fa 0 (.t 1)⟩,
         ⟨(some 33), none, .ld false 1 (.t 32)⟩,
         ⟨(some 34), none, .mv (.t 3)⟩,
         ⟨(some 35), none, .ia 2 (.t 33) (.t 34)⟩,
         ⟨(some 36), none, .ld true 2 (.t 35)⟩,
         ⟨(some 4), none, .alloc [.r (.v (.int .i64 0)), .r (.v (.int .i64 0))]⟩,
         ⟨none, none, .st 2 (.t 4) (.t 36)⟩] [1, 3, 4])
      (.seq (.reg (some [[], [0], [0, 1], [0, 1, 2], [0, 1, 2, 3], [0, 1, 2, 3, 4], [0, 1, 2, 3], [0, 1, 2, 3, 6], [0, 1, 2, 3], [0, 1, 2, 3, 8], [0, 1, 2, 3, 6, 7, 8, 9], [0, 1, 2, 3, 6, 7, 8, 9, 10], [0, 1, 2, 3, 4, 5, 6, 7, 8, 9, 10, 11], [0, 1, 2, 3, 4, 5, 6, 7, 8, 9, 10, 11, 12], [0, 1, 2, 3, 4, 5, 6, 7, 8, 9, 10, 11, 12, 13], [0, 1, 2, 3, 4, 5, 6, 7, 8, 9, 10, 11, 12, 13, 14], [0, 1, 2, 3], [0, 1, 2, 3, 16], [0, 1, 2, 3], [0, 1, 2, 3, 18], [0, 1, 2, 3], [0, 1, 2, 3, 20], [0, 1, 2, 3, 18, 19, 20, 21], [0, 1, 2, 3, 18, 19, 20, 21, 22], [0, 1, 2, 3, 16, 17, 18, 19, 20, 21, 22, 23], [0, 1, 2, 3, 16, 17, 18, 19, 20, 21, 22, 23, 24], [0, 1, 2, 3, 16, 17, 18, 19, 20, 21, 22, 23, 24, 25], [0, 1, 2, 3, 4, 5, 6, 7, 8, 9, 10, 11, 12, 13, 14, 15, 16, 17, 18, 19, 20, 21, 22, 23, 24, 25, 26], [0, 1, 2, 3, 4, 5, 6, 7, 8, 9, 10, 11, 12, 13, 14, 15, 16, 17, 18, 19, 20, 21, 22, 23, 24, 25, 26, 27]]) [⟨(some 37), none, .fa 0 (.t 4)⟩,
         ⟨(some 38), none, .ld false 1 (.t 37)⟩,
         ⟨(some 39), none, .bin .neq .i (.t 38) (.k (V.i 0))⟩,
         ⟨(some 40), none, .mv (.t 39)⟩,
         ⟨(some 41), (some (40, true)), .fa 1 (.t 1)⟩,
         ⟨(some 42), (some (40, true)), .ld false 1 (.t 41)⟩,
         ⟨(some 43), (some (40, true)), .fa 3 (.t 1)⟩,
         ⟨(some 44), (some (40, true)), .ld false 1 (.t 43)⟩,
         ⟨(some 45), (some (40, true)), .fa 1 (.t 4)⟩,
         ⟨(some 46), (some (40, true)), .ld false 1 (.t 45)⟩,
         ⟨(some 47), (some (40, true)), .ia 1 (.t 44) (.t 46)⟩,
         ⟨(some 48), (some (40, true)), .ld false 1 (.t 47)⟩,
         ⟨(some 49), (some (40, true)), .ia 3 (.t 42) (.t 48)⟩,
         ⟨(some 50), (some (40, true)), .fa 2 (.t 49)⟩,
         ⟨(some 51), (some (40, true)), .ld false 1 (.t 50)⟩,
         ⟨(some 52), (some (40, true)), .len false (.t 51)⟩,
         ⟨(some 53), (some (40, true)), .fa 1 (.t 1)⟩,
         ⟨(some 54), (some (40, true)), .ld false 1 (.t 53)⟩,
         ⟨(some 55), (some (40, true)), .fa 3 (.t 1)⟩,
         ⟨(some 56), (some (40, true)), .ld false 1 (.t 55)⟩,
         ⟨(some 57), (some (40, true)), .fa 1 (.t 4)⟩,
         ⟨(some 58), (some (40, true)), .ld false 1 (.t 57)⟩,
         ⟨(some 59), (some (40, true)), .ia 1 (.t 56) (.t 58)⟩,
         ⟨(some 60), (some (40, true)), .ld false 1 (.t 59)⟩,
         ⟨(some 61), (some (40, true)), .ia 3 (.t 54) (.t 60)⟩,
         ⟨(some 62), (some (40, true)), .fa 1 (.t 61)⟩,
         ⟨(some 63), (some (40, true)), .ld false 1 (.t 62)⟩,
         ⟨(some 64), (some (40, true)), .bin .lss .i (.t 52) (.t 63)⟩,
         ⟨(some 65), none, .pick (.t 40) (.t 64) (.k (V.b false))⟩] [1, 3, 65])
      (.cond (.t 65)
       (.seq (.reg none [⟨(some 2), none, .mv (.k (V.b false))⟩] [2])
        (.ret))
       (.skip)))))
    (.reg none [⟨(some 30), none, .mv (.t 3)⟩,
      ⟨(some 31), none, .bin .add .i (.t 30) (.k (V.i 1))⟩,
      ⟨(some 3), none, .mv (.t 31)⟩] [1, 3])))))
  (.seq (.reg none [⟨(some 2), none, .mv (.k (V.b true))⟩] [2])
  (.ret))))
def rv60 : List RV := [.t 2]
/-- loop.example/g03014/spec.ClearChute -/
def ir62 : J :=
  .seq (.reg none [⟨(some 2), none, .box (.t 0)⟩,
     ⟨(some 4), none, .alloc [.n 2, .n 3, .n 2, .n 1, .r (.v (.int .i64 0))]⟩,
     ⟨(some 5), none, .mv (.k (.c (.n 2)))⟩] [1, 2, 4])
  (.seq (.reg none [⟨(some 7), none, .ld true 5 (.t 2)⟩,
     ⟨(some 8), none, .call 106 true [(.t 7)]⟩,
     ⟨(some 6), none, .alloc [.n 2, .n 3, .n 2, .n 1, .r (.v (.int .i64 0))]⟩,
     ⟨none, none, .st 5 (.t 6) (.t 8)⟩] [1, 2, 4, 6])
  (.seq (.seq (.reg none [⟨(some 9), none, .ld true 5 (.t 2)⟩,
      ⟨(some 10), none, .call 31 true [(.t 9)]⟩,
      ⟨(some 11), none, .not (.t 10)⟩,
      ⟨(some 12), none, .mv (.t 11)⟩,
      ⟨(some 13), (some (12, false)), .mv (.t 1)⟩,
      ⟨(some 14), (some (12, false)), .fa 1 (.t 2)⟩,
      ⟨(some 15), (some (12, false)), .ld false 1 (.t 14)⟩,
      ⟨(some 16), (some (12, false)), .len false (.t 15)⟩,
      ⟨(some 17), (some (12, false)), .bin .sub .i (.t 16) (.k (V.i 1))⟩,
      ⟨(some 18), (some (12, false)), .call 85 true [(.t 13), (.k (V.i 0)), (.t 17)]⟩,
      ⟨(some 19), (some (12, false)), .not (.t 18)⟩,
      ⟨(some 20), none, .pick (.t 12) (.k (V.b true)) (.t 19)⟩] [1, 2, 4, 6, 20])
   (.cond (.t 20)
    (.seq (.reg none [⟨(some 21), none, .ld true 5 (.t 6)⟩,
        ⟨(some 22), none, .bsl 2 []⟩,
        ⟨none, none, .st 5 (.t 4) (.t 21)⟩,
        ⟨(some 5), none, .mv (.t 22)⟩] [4, 5])
     (.ret))
    (.skip)))
  (.seq (.reg none [⟨(some 23), none, .fa 1 (.t 6)⟩,
     ⟨(some 24), none, .ld false 1 (.t 23)⟩,
     ⟨(some 25), none, .mv (.t 1)⟩,
     ⟨(some 26), none, .bsl 2 []⟩,
     ⟨(some 27), none, .ia 3 (.t 24) (.t 25)⟩,
     ⟨(some 28), none, .fa 2 (.t 27)⟩,
     ⟨none, none, .st 1 (.t 28) (.t 26)⟩] [1, 2, 4, 6])
  (.seq (.reg (some [[], [], [1], [], [1, 2, 3], [1, 2, 3, 4], [1, 2, 3, 4, 5], [1, 2, 3, 4, 5, 6], [0, 1, 2, 3, 4, 5, 6, 7], [0, 1, 2, 3, 4, 5, 6, 7, 8]]) [⟨(some 29), none, .ld true 5 (.t 6)⟩,
     ⟨(some 30), none, .fa 1 (.t 2)⟩,
     ⟨(some 31), none, .ld false 1 (.t 30)⟩,
     ⟨(some 32), none, .mv (.t 1)⟩,
     ⟨(some 33), none, .ia 3 (.t 31) (.t 32)⟩,
     ⟨(some 34), none, .fa 2 (.t 33)⟩,
     ⟨(some 35), none, .ld false 1 (.t 34)⟩,
     ⟨(some 36), none, .call 108 true [(.t 35)]⟩,
     ⟨none, none, .st 5 (.t 4) (.t 29)⟩,
     ⟨(some 5), none, .mv (.t 36)⟩] [4, 5])
  (.ret)))))
def rv62 : List RV := [.c 4 true 5, .t 5]
/-- loop.example/g03014/spec.SetPlan -/
def ir67 : J :=
  .seq (.reg none [⟨(some 3), none, .box (.t 0)⟩,
     ⟨(some 6), none, .alloc [.n 2, .n 3, .n 2, .n 1, .r (.v (.int .i64 0))]⟩,
     ⟨(some 7), none, .mv (.k (V.b false))⟩] [1, 2, 3, 6])
  (.seq (.reg none [⟨(some 9), none, .ld true 5 (.t 3)⟩,
     ⟨(some 10), none, .call 106 true [(.t 9)]⟩,
     ⟨(some 8), none, .alloc [.n 2, .n 3, .n 2, .n 1, .r (.v (.int .i64 0))]⟩,
     ⟨none, none, .st 5 (.t 8) (.t 10)⟩] [1, 2, 3, 6, 8])
  (.seq (.seq (.reg none [⟨(some 11), none, .ld true 5 (.t 3)⟩,
      ⟨(some 12), none, .call 31 true [(.t 11)]⟩,
      ⟨(some 13), none, .not (.t 12)⟩,
      ⟨(some 14), none, .mv (.t 13)⟩,
      ⟨(some 15), (some (14, false)), .mv (.t 1)⟩,
      ⟨(some 16), (some (14, false)), .fa 3 (.t 3)⟩,
      ⟨(some 17), (some (14, false)), .ld false 1 (.t 16)⟩,
      ⟨(some 18), (some (14, false)), .len false (.t 17)⟩,
      ⟨(some 19), (some (14, false)), .bin .sub .i (.t 18) (.k (V.i 1))⟩,
      ⟨(some 20), (some (14, false)), .call 85 true [(.t 15), (.k (V.i 0)), (.t 19)]⟩,
      ⟨(some 21), (some (14, false)), .not (.t 20)⟩,
      ⟨(some 22), none, .pick (.t 14) (.k (V.b true)) (.t 21)⟩,
      ⟨(some 23), none, .mv (.t 22)⟩,
      ⟨(some 24), (some (23, false)), .mv (.t 2)⟩,
      ⟨(some 25), (some (23, false)), .fa 1 (.t 3)⟩,
      ⟨(some 26), (some (23, false)), .ld false 1 (.t 25)⟩,
      ⟨(some 27), (some (23, false)), .len false (.t 26)⟩,
      ⟨(some 28), (some (23, false)), .bin .sub .i (.t 27) (.k (V.i 1))⟩,
      ⟨(some 29), (some (23, false)), .call 85 true [(.t 24), (.k (V.i 0)), (.t 28)]⟩,
      ⟨(some 30), (some (23, false)), .not (.t 29)⟩,
      ⟨(some 31), none, .pick (.t 23) (.k (V.b true)) (.t 30)⟩] [1, 2, 6, 8, 31])
   (.cond (.t 31)
    (.seq (.reg none [⟨(some 32), none, .ld true 5 (.t 8)⟩,
        ⟨none, none, .st 5 (.t 6) (.t 32)⟩,
        ⟨(some 7), none, .mv (.k (V.b false))⟩] [6, 7])
     (.ret))
    (.skip)))
  (.seq (.reg none [⟨(some 33), none, .fa 3 (.t 8)⟩,
     ⟨(some 34), none, .ld false 1 (.t 33)⟩,
     ⟨(some 35), none, .mv (.t 1)⟩,
     ⟨(some 36), none, .mv (.t 2)⟩,
     ⟨(some 37), none, .ia 1 (.t 34) (.t 35)⟩,
     ⟨none, none, .st 1 (.t 37) (.t 36)⟩] [6, 8])
  (.seq (.reg none [⟨(some 38), none, .ld true 5 (.t 8)⟩,
     ⟨none, none, .st 5 (.t 6) (.t 38)⟩,
     ⟨(some 7), none, .mv (.k (V.b true))⟩] [6, 7])
  (.ret)))))
def rv67 : List RV := [.c 6 true 5, .t 7]
end Go.Vs
