/- Part of the proofs of this seat's laws: Lad. No condition. -/
import Derived.Test.YticpmdigfdpmfaaGreatTy
import Derived.Test.YticpmdigfdpmfaaGreatTIRall
import Derived.Test.YticpmdigfdpmfaaGreatLaa
import Derived.Test.YticpmdigfdpmfaaGreatLac
import Derived.Test.YticpmdigfdpmfaaGreatLab
set_option linter.unusedVariables false
set_option linter.unusedSimpArgs false
set_option linter.unusedSectionVars false
namespace Go.Vs
set_option maxRecDepth 100000
def HO:J:=js [jq 2 (.box 0),jq 3 (.box 1),jq 4 (.alloc [.r (.v (.string .empty)),.r (.v (.int .i64 0))])] [2,3,4] (.seq (js [jl 5 3 2,jl 6 6 3,jc 7 91 [5,6],jq 8 (.not 7)] [2,3,4,8] (.cond 8 (js [jq 9 (.bld [.r (.v (.string .empty)),.r (.v (.int .i64 0))] []),jp (.st 2 4 9)] [4] .ret) .skip)) (.seq (js [jf 10 2 3,jk 11 10,jb 12 .eql .i 11 (ki 3)] [2,3,4,12] (.cond 12 (.seq (.reg (some [[],[0],[],[2],[2,3],[0,1,2,3,4],[0,1,2,3,4,5],[0,1,2,3,4,5,6],[],[],[9],[8,9,10],[0,1,2,3,4,5,6,7,8,9,10,11],[0,1,2,3,4,5,6,7,8,9,10,11,12]]) [jf 13 0 2,jk 14 13,jf 15 4 3,jf 16 0 15,jk 17 16,ja 18 6 14 17,jf 19 1 18,jk 20 19,jl 21 3 2,jf 22 4 3,jl 23 2 22,jc 24 86 [21,23],jq 25 (.bld [.r (.v (.string .empty)),.r (.v (.int .i64 0))] [(0,1,20),(1,1,24)]),jp (.st 2 4 25)] [4]) .ret) .skip)) (.seq (.reg (some [[],[],[0,1],[],[3],[0,1,2,3,4],[0,1,2,3,4,5]]) [jl 26 3 2,jl 27 6 3,jc 28 147 [26,27],jf 29 1 3,jk 30 29,jq 31 (.bld [.r (.v (.string .empty)),.r (.v (.int .i64 0))] [(0,1,28),(1,1,30)]),jp (.st 2 4 31)] [4]) .ret)))
def GL:List RV:=[.c 4 true 2]
open Go.Proofs Go.IntWalk
set_option linter.unusedVariables false
set_option maxHeartbeats 4000000
def bm (g:G) (t:TE) (a0:Network) (a1:Scan):Option Spot:=
 cl (fh g t a0 (Scan.mk a1.Thing a1.At a1.Kind a1.Place (Trip.mk a1.Trip.Leg a1.Trip.Day))) fun x1=>
 br x1
 (
  br (g.eq a1.Kind 3)
  (
   gd (((0:Int)≤a1.Trip.Leg))<|
   gt a0.Legs (g.nat a1.Trip.Leg) fun x2=>
   cl (ew g t a0 (Trip.mk a1.Trip.Leg a1.Trip.Day)) fun x3=>
   some (Spot.mk x2.To x3))
  (
   cl (j5 g t a0 (Scan.mk a1.Thing a1.At a1.Kind a1.Place (Trip.mk a1.Trip.Leg a1.Trip.Day))) fun x4=>
   some (Spot.mk x4 a1.At)))
 (
  some (Spot.mk ByteArray.empty 0))
theorem bT {g:G} {t:TE} {a0:Network} {a1:Scan} {r:Spot} (hg:g=G.real) (ht:t=TE.real) (h:bm g t a0 a1=some r):Fn Tryz.prog 105 [.g (Network.rs t a0),.g (Scan.rs t a1)] (.g (Spot.ds t r)):=by
 obtain⟨X,hX⟩:=aC (.g (Spot.ds t r):X);rw[←hX];refine ay (rvs:=GL) (j:=HO) Tryz.func105 rfl (by kernel_rfl) (nb rfl) (by kernel_rfl) ac ?_;intro g2 F hg2 hF;obtain rfl:g2=g:=hg2.unique.trans hg.symm;clear hg2;obtain⟨_,_,_,eq⟩:=g2;obtain⟨_⟩:=t
 obtain⟨a0_Legs,a0_Off,a0_Change⟩:=a0;obtain⟨a1_Thing,a1_At,a1_Kind,a1_Place,⟨a1_Trip_Leg,a1_Trip_Day⟩⟩:=a1;unfold bm at h;try dsimp only at h
 cbv;obtain⟨x1,hx1,h⟩:=af h;try dsimp only at h
 refine ACall.mk _ _ rfl (hF _ _ _ (gG hg ht hx1)) (.inl rfl) (nb rfl) ?_;cbv
 cases hb1:x1
 ·rw[aa hb1] at h;cbv;obtain rfl:=Option.some.inj h;exact ARet.mk trivial hX.symm
 rw[ab hb1] at h;cbv
 cases hb2:(eq a1_Kind 3)
 ·rw[aa hb2] at h;cbv;obtain⟨x4,hx4,h⟩:=af h;try dsimp only at h
  refine ACall.mk _ _ rfl (hF _ _ _ (wF hg ht hx4)) (.inl rfl) (nb rfl) ?_;cbv;obtain rfl:=Option.some.inj h;exact ARet.mk trivial hX.symm
 rw[ab hb2] at h;cbv;obtain⟨hc1,h⟩:=aj h;refine AStep.mk hc1 ?_;cbv;obtain⟨x2,hx2,h⟩:=aD h;obtain⟨x2_From,x2_To,x2_Start,x2_Takes,x2_Days,x2_Room⟩:=x2;try dsimp only at h
 refine AGet.mk _ (aY hg ht hx2) ?_;cbv;obtain⟨x3,hx3,h⟩:=af h;try dsimp only at h
 refine ACall.mk _ _ rfl (hF _ _ _ (ee hg ht hx3)) (.inl rfl) (nb rfl) ?_;cbv;obtain rfl:=Option.some.inj h;exact ARet.mk trivial hX.symm
def H9:J:=js [jq 2 (.box 0),jq 3 (.box 1),jq 4 (.alloc [.r (.v (.string .empty)),.r (.v (.int .i64 0))])] [2,3,4] (.seq (js [jl 5 3 2,jl 6 6 3,jc 7 91 [5,6],jq 8 (.not 7)] [2,3,4,8] (.cond 8 (js [jq 9 (.bld [.r (.v (.string .empty)),.r (.v (.int .i64 0))] []),jp (.st 2 4 9)] [4] .ret) .skip)) (.seq (js [jf 10 2 3,jk 11 10,jb 12 .eql .i 11 (ki 3),jm 13 12,jv 14 13 (.fa 2 3),jv 15 13 (.ld false 1 14),jv 16 13 (.bin .eql .i 15 (ki 2)),jq 17 (.pick 13 kt 16)] [2,3,4,17] (.cond 17 (.seq (.reg (some [[],[0],[],[2],[2,3],[0,1,2,3,4],[0,1,2,3,4,5],[0,1,2,3,4,5,6],[],[],[9],[8,9,10],[0,1,2,3,4,5,6,7,8,9,10,11],[0,1,2,3,4,5,6,7,8,9,10,11,12]]) [jf 18 0 2,jk 19 18,jf 20 4 3,jf 21 0 20,jk 22 21,ja 23 6 19 22,jf 24 0 23,jk 25 24,jl 26 3 2,jf 27 4 3,jl 28 2 27,jc 29 85 [26,28],jq 30 (.bld [.r (.v (.string .empty)),.r (.v (.int .i64 0))] [(0,1,25),(1,1,29)]),jp (.st 2 4 30)] [4]) .ret) .skip)) (js [jf 31 3 3,jk 32 31,jf 33 1 3,jk 34 33,jq 35 (.bld [.r (.v (.string .empty)),.r (.v (.int .i64 0))] [(0,1,32),(1,1,34)]),jp (.st 2 4 35)] [4] .ret)))
def GS:List RV:=[.c 4 true 2]
def bn (g:G) (t:TE) (a0:Network) (a1:Scan):Option Spot:=
 cl (fh g t a0 (Scan.mk a1.Thing a1.At a1.Kind a1.Place (Trip.mk a1.Trip.Leg a1.Trip.Day))) fun x1=>
 br x1
 (
  br (g.eq a1.Kind 3)
  (
   gd (((0:Int)≤a1.Trip.Leg))<|
   gt a0.Legs (g.nat a1.Trip.Leg) fun x2=>
   cl (bK g t a0 (Trip.mk a1.Trip.Leg a1.Trip.Day)) fun x3=>
   some (Spot.mk x2.From x3))
  (
   br (g.eq a1.Kind 2)
   (
    gd (((0:Int)≤a1.Trip.Leg))<|
    gt a0.Legs (g.nat a1.Trip.Leg) fun x4=>
    cl (bK g t a0 (Trip.mk a1.Trip.Leg a1.Trip.Day)) fun x5=>
    some (Spot.mk x4.From x5))
   (
    some (Spot.mk a1.Place a1.At))))
 (
  some (Spot.mk ByteArray.empty 0))
theorem bO {g:G} {t:TE} {a0:Network} {a1:Scan} {r:Spot} (hg:g=G.real) (ht:t=TE.real) (h:bn g t a0 a1=some r):Fn Tryz.prog 106 [.g (Network.rs t a0),.g (Scan.rs t a1)] (.g (Spot.ds t r)):=by
 obtain⟨X,hX⟩:=aC (.g (Spot.ds t r):X);rw[←hX];refine ay (rvs:=GS) (j:=H9) Tryz.func106 rfl (by kernel_rfl) (nb rfl) (by kernel_rfl) ac ?_;intro g2 F hg2 hF;obtain rfl:g2=g:=hg2.unique.trans hg.symm;clear hg2;obtain⟨_,_,_,eq⟩:=g2;obtain⟨_⟩:=t
 obtain⟨a0_Legs,a0_Off,a0_Change⟩:=a0;obtain⟨a1_Thing,a1_At,a1_Kind,a1_Place,⟨a1_Trip_Leg,a1_Trip_Day⟩⟩:=a1;unfold bn at h;try dsimp only at h
 cbv;obtain⟨x1,hx1,h⟩:=af h;try dsimp only at h
 refine ACall.mk _ _ rfl (hF _ _ _ (gG hg ht hx1)) (.inl rfl) (nb rfl) ?_;cbv
 cases hb1:x1
 ·rw[aa hb1] at h;cbv;obtain rfl:=Option.some.inj h;exact ARet.mk trivial hX.symm
 rw[ab hb1] at h;cbv
 cases hb2:(eq a1_Kind 3)
 rotate_left
 ·rw[ab hb2] at h;cbv;iterate 3 try(rw[hb2];cbv)
  obtain⟨hc1,h⟩:=aj h;refine AStep.mk hc1 ?_;cbv;obtain⟨x2,hx2,h⟩:=aD h;obtain⟨x2_From,x2_To,x2_Start,x2_Takes,x2_Days,x2_Room⟩:=x2;try dsimp only at h
  refine AGet.mk _ (aY hg ht hx2) ?_;cbv;obtain⟨x3,hx3,h⟩:=af h;try dsimp only at h
  refine ACall.mk _ _ rfl (hF _ _ _ (bX hg ht hx3)) (.inl rfl) (nb rfl) ?_;cbv;obtain rfl:=Option.some.inj h;exact ARet.mk trivial hX.symm
 rw[aa hb2] at h;cbv;iterate 3 try(rw[hb2];cbv)
 cases hb3:(eq a1_Kind 2)
 ·rw[aa hb3] at h;cbv;obtain rfl:=Option.some.inj h;exact ARet.mk trivial hX.symm
 rw[ab hb3] at h;cbv;obtain⟨hc2,h⟩:=aj h;refine AStep.mk hc2 ?_;cbv;obtain⟨x4,hx4,h⟩:=aD h;obtain⟨x4_From,x4_To,x4_Start,x4_Takes,x4_Days,x4_Room⟩:=x4;try dsimp only at h
 refine AGet.mk _ (aY hg ht hx4) ?_;cbv;obtain⟨x5,hx5,h⟩:=af h;try dsimp only at h
 refine ACall.mk _ _ rfl (hF _ _ _ (bX hg ht hx5)) (.inl rfl) (nb rfl) ?_;cbv;obtain rfl:=Option.some.inj h;exact ARet.mk trivial hX.symm
def ir48:J:=js [jq 3 (.box 0),jq 4 (.box 1),jq 5 (.box 2),jm 6 kf] [3,4,5] (.seq (js [jl 7 3 3,jl 8 6 4,jc 9 91 [7,8],jq 10 (.not 9),jm 11 10,jv 12 11 (.ld true 3 3),jv 13 11 (.ld true 6 5),jv 14 11 (.call 91 true [12,13]),jv 15 11 (.not 14),jq 16 (.pick 11 kt 15),jm 17 16,jv 18 17 (.fa 0 4),jv 19 17 (.ld false 1 18),jv 20 17 (.fa 0 5),jv 21 17 (.ld false 1 20),jv 22 17 (.bin .neq .i 19 21),jq 23 (.pick 17 kt 22),jm 24 23,jv 25 24 (.ld true 6 4),jv 26 24 (.ld true 6 5),jv 27 24 (.call 37 true [25,26]),jv 28 24 (.bin .geq .i 27 (ki 0)),jq 29 (.pick 24 kt 28),jm 30 29,jv 31 30 (.fa 2 4),jv 32 30 (.ld false 1 31),jv 33 30 (.bin .eql .i 32 (ki 4)),jq 34 (.pick 30 kt 33)] [3,4,5,34] (.cond 34 (js [jm 6 kf] [6] .ret) .skip)) (.seq (js [jf 35 2 5,jk 36 35,jb 37 .eql .i 36 (ki 2),jm 38 37,ju 39 38 (.fa 2 4),ju 40 38 (.ld false 1 39),ju 41 38 (.bin .eql .i 40 (ki 3)),jq 42 (.pick 38 41 kf),jm 43 42,ju 44 43 (.fa 4 4),ju 45 43 (.ld true 2 44),ju 46 43 (.fa 4 5),ju 47 43 (.ld true 2 46),ju 48 43 (.eqs false [.i,.i] 45 47),jq 49 (.pick 43 48 kf)] [3,4,5,49] (.cond 49 (js [jm 6 kt] [6] .ret) .skip)) (.seq (.reg (some [[],[],[],[1,2],[],[],[1,2,3,4,5],[0,1,2,3,4,5,6],[0,1,2,3,4,5,6,7]]) [jl 50 3 3,jl 51 3 3,jl 52 6 4,jc 53 105 [51,52],jl 54 3 3,jl 55 6 5,jc 56 106 [54,55],jc 57 104 [50,53,56],jm 6 57] [6]) .ret)))
def rv48:List RV:=[.t 6]
def fF (g:G) (t:TE) (a0:Network) (a1:Scan) (a2:Scan):Option Bool:=
 cl (fh g t a0 (Scan.mk a1.Thing a1.At a1.Kind a1.Place (Trip.mk a1.Trip.Leg a1.Trip.Day))) fun x1=>
 br x1
 (
  cl (fh g t a0 (Scan.mk a2.Thing a2.At a2.Kind a2.Place (Trip.mk a2.Trip.Leg a2.Trip.Day))) fun x2=>
  br x2
  (
   br (g.eq a1.Thing a2.Thing)
   (
    lP (bL g t (Scan.mk a1.Thing a1.At a1.Kind a1.Place (Trip.mk a1.Trip.Leg a1.Trip.Day)) (Scan.mk a2.Thing a2.At a2.Kind a2.Place (Trip.mk a2.Trip.Leg a2.Trip.Day))) fun x3=>
    br (g.le 0 x3)
    (
     some false)
    (
     br (g.eq a1.Kind 4)
     (
      some false)
     (
      br (g.eq a2.Kind 2)
      (
       br (g.eq a1.Kind 3)
       (
        br (g.all [(g.eq a1.Trip.Leg a2.Trip.Leg),(g.eq a1.Trip.Day a2.Trip.Day)])
        (
         some true)
        (
         cl (bm g t a0 (Scan.mk a1.Thing a1.At a1.Kind a1.Place (Trip.mk a1.Trip.Leg a1.Trip.Day))) fun x4=>
         cl (bn g t a0 (Scan.mk a2.Thing a2.At a2.Kind a2.Place (Trip.mk a2.Trip.Leg a2.Trip.Day))) fun x5=>
         cl (eJ g t a0 x4 x5) fun x6=>
         some x6))
       (
        cl (bm g t a0 (Scan.mk a1.Thing a1.At a1.Kind a1.Place (Trip.mk a1.Trip.Leg a1.Trip.Day))) fun x7=>
        cl (bn g t a0 (Scan.mk a2.Thing a2.At a2.Kind a2.Place (Trip.mk a2.Trip.Leg a2.Trip.Day))) fun x8=>
        cl (eJ g t a0 x7 x8) fun x9=>
        some x9))
      (
       cl (bm g t a0 (Scan.mk a1.Thing a1.At a1.Kind a1.Place (Trip.mk a1.Trip.Leg a1.Trip.Day))) fun x10=>
       cl (bn g t a0 (Scan.mk a2.Thing a2.At a2.Kind a2.Place (Trip.mk a2.Trip.Leg a2.Trip.Day))) fun x11=>
       cl (eJ g t a0 x10 x11) fun x12=>
       some x12))))
   (
    some false))
  (
   some false))
 (
  some false)
theorem mq {g:G} {t:TE} {a0:Network} {a1:Scan} {a2:Scan} {r:Bool} (hg:g=G.real) (ht:t=TE.real) (h:fF g t a0 a1 a2=some r):Fn Tryz.prog 48 [.g (Network.rs t a0),.g (Scan.rs t a1),.g (Scan.rs t a2)] (.c (.r (.v (.bool r)))):=by
 obtain⟨X,hX⟩:=aC (.c (.r (.v (.bool r))):X);rw[←hX];refine ay (rvs:=rv48) (j:=ir48) Tryz.func48 rfl (by kernel_rfl) (nb rfl) (by kernel_rfl) ac ?_;intro g2 F hg2 hF;obtain rfl:g2=g:=hg2.unique.trans hg.symm;clear hg2;obtain⟨_,_,le,eq,_,_,_,_,_,_,_,_,_,_,_,_,_,_,_,_,_,_,_,_,_,_,_,_,_,_,_,_,_,all⟩:=g2;obtain⟨_⟩:=t
 obtain⟨a0_Legs,a0_Off,a0_Change⟩:=a0;obtain⟨a1_Thing,a1_At,a1_Kind,a1_Place,⟨a1_Trip_Leg,a1_Trip_Day⟩⟩:=a1;obtain⟨a2_Thing,a2_At,a2_Kind,a2_Place,⟨a2_Trip_Leg,a2_Trip_Day⟩⟩:=a2;unfold fF at h;try dsimp only at h
 cbv;obtain⟨x1,hx1,h⟩:=af h;try dsimp only at h
 refine ACall.mk _ _ rfl (hF _ _ _ (gG hg ht hx1)) (.inl rfl) (nb rfl) ?_;cbv
 cases hb1:x1
 ·rw[aa hb1] at h;cbv;iterate 4 try(rw[hb1];cbv)
  obtain rfl:=Option.some.inj h;exact ARet.mk trivial hX.symm
 rw[ab hb1] at h;cbv;iterate 2 try(rw[hb1];cbv)
 obtain⟨x2,hx2,h⟩:=af h;try dsimp only at h
 refine ACall.mk _ _ rfl (hF _ _ _ (gG hg ht hx2)) (.inl rfl) (nb rfl) ?_;cbv;iterate 2 try(rw[hb1];cbv)
 cases hb2:x2
 ·rw[aa hb2] at h;cbv;iterate 5 try(rw[hb2];cbv)
  obtain rfl:=Option.some.inj h;exact ARet.mk trivial hX.symm
 rw[ab hb2] at h;cbv;iterate 5 try(rw[hb2];cbv)
 cases hb3:(eq a1_Thing a2_Thing)
 ·rw[aa hb3] at h;cbv;iterate 4 try(rw[hb3];cbv)
  obtain rfl:=Option.some.inj h;exact ARet.mk trivial hX.symm
 rw[ab hb3] at h;cbv;iterate 2 try(rw[hb3];cbv)
 obtain⟨x3,hx3,h⟩:=ah h;try dsimp only at h
 refine ACall.mk _ _ rfl (hF _ _ _ (jE hg ht hx3)) (.inl rfl) (nb rfl) ?_;cbv;iterate 2 try(rw[hb3];cbv)
 cases hb4:(le 0 x3)
 rotate_left
 ·rw[ab hb4] at h;cbv;iterate 3 try(rw[hb4];cbv)
  obtain rfl:=Option.some.inj h;exact ARet.mk trivial hX.symm
 rw[aa hb4] at h;cbv;iterate 3 try(rw[hb4];cbv)
 cases hb5:(eq a1_Kind 4)
 rotate_left
 ·rw[ab hb5] at h;cbv;obtain rfl:=Option.some.inj h;exact ARet.mk trivial hX.symm
 rw[aa hb5] at h;cbv
 cases hb6:(eq a2_Kind 2)
 ·rw[aa hb6] at h;cbv;iterate 3 try(rw[hb6];cbv)
  obtain⟨x10,hx10,h⟩:=af h;obtain⟨x10_Place,x10_At⟩:=x10;try dsimp only at h
  refine ACall.mk _ _ rfl (hF _ _ _ (bT hg ht hx10)) (.inl rfl) (nb rfl) ?_;cbv;obtain⟨x11,hx11,h⟩:=af h;obtain⟨x11_Place,x11_At⟩:=x11;try dsimp only at h
  refine ACall.mk _ _ rfl (hF _ _ _ (bO hg ht hx11)) (.inl rfl) (nb rfl) ?_;cbv;obtain⟨x12,hx12,h⟩:=af h;try dsimp only at h
  refine ACall.mk _ _ rfl (hF _ _ _ (jy hg ht hx12)) (.inl rfl) (nb rfl) ?_;cbv;obtain rfl:=Option.some.inj h;exact ARet.mk trivial hX.symm
 rw[ab hb6] at h;cbv;iterate 3 try(rw[hb6];cbv)
 cases hb7:(eq a1_Kind 3)
 ·rw[aa hb7] at h;cbv;iterate 5 try(rw[hb7];cbv)
  obtain⟨x7,hx7,h⟩:=af h;obtain⟨x7_Place,x7_At⟩:=x7;try dsimp only at h
  refine ACall.mk _ _ rfl (hF _ _ _ (bT hg ht hx7)) (.inl rfl) (nb rfl) ?_;cbv;obtain⟨x8,hx8,h⟩:=af h;obtain⟨x8_Place,x8_At⟩:=x8;try dsimp only at h
  refine ACall.mk _ _ rfl (hF _ _ _ (bO hg ht hx8)) (.inl rfl) (nb rfl) ?_;cbv;obtain⟨x9,hx9,h⟩:=af h;try dsimp only at h
  refine ACall.mk _ _ rfl (hF _ _ _ (jy hg ht hx9)) (.inl rfl) (nb rfl) ?_;cbv;obtain rfl:=Option.some.inj h;exact ARet.mk trivial hX.symm
 rw[ab hb7] at h;cbv;iterate 5 try(rw[hb7];cbv)
 cases hb8:(all [(eq a1_Trip_Leg a2_Trip_Leg),(eq a1_Trip_Day a2_Trip_Day)])
 rotate_left
 ·rw[ab hb8] at h;cbv;obtain rfl:=Option.some.inj h;exact ARet.mk trivial hX.symm
 rw[aa hb8] at h;cbv;obtain⟨x4,hx4,h⟩:=af h;obtain⟨x4_Place,x4_At⟩:=x4;try dsimp only at h
 refine ACall.mk _ _ rfl (hF _ _ _ (bT hg ht hx4)) (.inl rfl) (nb rfl) ?_;cbv;obtain⟨x5,hx5,h⟩:=af h;obtain⟨x5_Place,x5_At⟩:=x5;try dsimp only at h
 refine ACall.mk _ _ rfl (hF _ _ _ (bO hg ht hx5)) (.inl rfl) (nb rfl) ?_;cbv;obtain⟨x6,hx6,h⟩:=af h;try dsimp only at h
 refine ACall.mk _ _ rfl (hF _ _ _ (jy hg ht hx6)) (.inl rfl) (nb rfl) ?_;cbv;obtain rfl:=Option.some.inj h;exact ARet.mk trivial hX.symm
def ir19:J:=js [jq 3 (.box 0),jq 6 (.mv (.k (.c (.n 1))))] [1,2,3] (js [jq 10 (.bsl 1 []),jm 7 10] [1,2,3,7] (js [jl 11 3 3,jm 12 1,jm 13 2,jc 14 18 [11,12,13],jm 8 14] [3,7,8] (.seq (js [jm 9 (ki 1)] [3,7,8,9] (.bl 0 (.seq (js [jm 15 9,jm 16 8,jq 17 (.len false 16),jb 18 .lss .i 15 17] [3,7,8,9,18] (.cond 18 .skip (.exit 0))) (.seq (.block 1 (.seq (.reg (some [[],[],[],[2],[1,2,3],[1,2,3,4],[],[],[6,7],[6,7,8],[0,1,2,3,4,5,6,7,8,9],[0,1,2,3,4,5,6,7,8,9,10]]) [jl 21 3 3,jm 22 8,jm 23 9,jb 24 .sub .i 23 (ki 1),ja 25 6 22 24,jl 26 6 25,jm 27 8,jm 28 9,ja 29 6 27 28,jl 30 6 29,jc 31 48 [21,26,30],jq 32 (.not 31)] [3,7,8,9,32]) (.cond 32 (.reg none [jm 33 7,jm 34 9,jq 35 (.bsl 1 [34]),jq 36 (.app 1 8 true 33 35),jm 7 36] [3,7,8,9]) .skip))) (.reg none [jm 19 9,jb 20 .add .i 19 (ki 1),jm 9 20] [3,7,8,9]))))) (js [jm 37 7,jm 6 37] [6] .ret))))
def rv19:List RV:=[.t 6]
def cu (g:G) (t:TE) (a0:Network) (x1:List Scan):Nat→Int→List Int→Option (List Int)
 |0,v1,w1=>
  some w1
 |n1+1,v1,w1=>
  gd (((0:Int)≤(g.wrap .i64 (g.sub v1 1))∧(g.wrap .i64 (g.sub v1 1))<(((g.dlen (t.d_Scan x1)):Nat):Int)))<|
  gt x1 (g.nat (g.wrap .i64 (g.sub v1 1))) fun x2=>
  gt x1 (g.nat v1) fun x3=>
  cl (fF g t a0 (Scan.mk x2.Thing x2.At x2.Kind x2.Place (Trip.mk x2.Trip.Leg x2.Trip.Day)) (Scan.mk x3.Thing x3.At x3.Kind x3.Place (Trip.mk x3.Trip.Leg x3.Trip.Day))) fun x4=>
  br x4
  (
   cu g t a0 x1 n1 (g.wrap .i64 (g.add v1 1)) w1)
  (
   lP ([v1]) fun(l2:List Int)=>
   gd (((w1.length+l2.length)*8≤70368744177664))<|
   lP (w1++l2) fun(l3:List Int)=>
   cu g t a0 x1 n1 (g.wrap .i64 (g.add v1 1)) l3)
def jH (g:G) (t:TE) (a0:Network) (a1:List Scan) (a2:Int):Option (List Int):=
 lP ([]) fun(l1:List Int)=>
 cl (gN g t a0 a1 a2) fun x1=>
 gd (((g.int (g.dlen (t.d_Scan x1)))≤9223372036854775807))<|
 cl (cu g t a0 x1 (aA 1 (g.int (g.dlen (t.d_Scan x1)))) 1 l1) fun y1=>
 some y1
theorem v9 {g:G} {t:TE} {a0:Network} {a1:List Scan} {a2:Int} {r:List Int} (hg:g=G.real) (ht:t=TE.real) (h:jH g t a0 a1 a2=some r):Fn Tryz.prog 19 [.g (Network.rs t a0),.c (.s 6 (t.r_Scan a1)),.c (.v (.int .i64 a2))] (.c (.o 1 (t.d_I64 r))):=by
 obtain⟨X,hX⟩:=aC (.c (.o 1 (t.d_I64 r)):X);rw[←hX];refine ay (rvs:=rv19) (j:=ir19) Tryz.func19 rfl (by kernel_rfl) (nb rfl) (by kernel_rfl) ac ?_;intro g2 F hg2 hF;obtain rfl:g2=g:=hg2.unique.trans hg.symm;clear hg2;obtain⟨wrap,lt,_,_,_,_,_,_,_,_,_,_,int,add,_,_,_,_,_,_,_,_,_,_,dlen⟩:=g2;obtain⟨_,_,_,d_Scan,r_Leg,_,r_I64,d_I64⟩:=t
 obtain⟨a0_Legs,a0_Off,a0_Change⟩:=a0;unfold jH at h;try dsimp only at h
 cbv;obtain⟨l1,hl1,h⟩:=ah h;try dsimp only at h
 refine ANew.mk (d_I64 l1) (dlen (d_I64 l1)) (by rw[←hl1];exact dB hg ht []) (by rw[←hl1];exact cH hg ht []) ?_;cbv;obtain⟨x1,hx1,h⟩:=af h;try dsimp only at h
 refine ACall.mk _ _ rfl (hF _ _ _ (lm hg ht hx1)) (.inl rfl) (nb rfl) ?_;cbv;obtain⟨hB1,h⟩:=aj h;obtain⟨o1,ho1,h⟩:=af h;try dsimp only at h
 try rw[hg] at ho1
 try rw[ht] at ho1
 refine ABL.mk {p:Nat×Int×List Int//p.1=aA p.2.1 (int (dlen (d_Scan x1)))∧1≤p.2.1∧cu G.real TE.real (Network.mk a0_Legs a0_Off a0_Change) x1 p.1 p.2.1 p.2.2=some o1} (fun⟨⟨n1,v1,w1⟩,_⟩=>({sl:=[(3,.c (.p 0 3 0 0)),(7,.c (.f 1 1 0 (dlen (d_I64 w1)))),(8,.c (.f 2 6 0 (dlen (d_Scan x1)))),(9,.c (.r (.v (.int .i64 v1))))],tab:=[(0,some (.foc 3 [] [.r (.s 6 (r_Leg a0_Legs)),.r (.s 1 (r_I64 a0_Off)),.r (.v (.int .i64 a0_Change))] [])),(1,some (.arr 1 (d_I64 w1))),(2,some (.arr 6 (d_Scan x1)))]}:St)) 3 (fun p=>p.1.1) ⟨(aA 1 (int (dlen (d_Scan x1))),1,l1),rfl,Int.le_refl _,ho1⟩ (List Int) (fun y1=>({sl:=[(7,.c (.f 0 1 0 (dlen (d_I64 y1))))],tab:=[(0,some (.arr 1 (d_I64 y1)))]}:St)) 1 (fun y=>o1=y) ?_ ?_ ?_
 ·refine Wk.of [(0,some 0),(1,some 32),(2,some 112)] rfl rfl ?_ ?_
  ·cbv;all_goals exact⟨⟨_,rfl,rfl⟩,⟨_,rfl,rfl⟩,⟨_,rfl,rfl⟩,⟨_,rfl,rfl⟩,trivial⟩
  cbv;all_goals exact⟨⟨_,rfl,_,rfl,rfl,rfl,rfl,trivial⟩,⟨_,rfl,rfl⟩,⟨_,rfl,rfl⟩,trivial⟩
 ·rintro⟨⟨n1,v1,w1⟩,hn1,hi1,h_1⟩ hq1;try dsimp only at hn1 hi1 h_1
  clear hq1;cbv;rcases n1 with _|n1
  ·have hb1:lt v1 (int (dlen (d_Scan x1)))=false:=bY hg hn1;rw[cu] at h_1;try rw[←hg] at h_1
   try rw[←ht] at h_1
   try dsimp only at h_1
   rw[hb1];cbv;refine⟨w1,Wk.of [(0,some 1)] rfl rfl ?_ ?_,(Option.some.inj h_1).symm⟩
   ·cbv;all_goals exact⟨⟨_,rfl,rfl⟩,trivial⟩
   cbv;all_goals exact⟨⟨_,rfl,rfl⟩,trivial⟩
  have hb1:lt v1 (int (dlen (d_Scan x1)))=true:=c7 hg hn1;have hl1:=fv hn1;have hs1:=d6 hg hn1 hi1 hB1 (by decide);rw[cu] at h_1;try rw[←hg] at h_1
  try rw[←ht] at h_1
  try dsimp only at h_1
  rw[hb1];cbv;obtain⟨hc1,h_1⟩:=aj h_1;refine AStep.mk hc1 ?_;cbv;obtain⟨x2,hx2,h_1⟩:=aD h_1;obtain⟨x2_Thing,x2_At,x2_Kind,x2_Place,⟨x2_Trip_Leg,x2_Trip_Day⟩⟩:=x2;try dsimp only at h_1
  refine AGet.mk _ (dD hg ht hx2) ?_;cbv;refine AStep.mk (lz hg hi1 hl1) ?_;cbv;obtain⟨x3,hx3,h_1⟩:=aD h_1;obtain⟨x3_Thing,x3_At,x3_Kind,x3_Place,⟨x3_Trip_Leg,x3_Trip_Day⟩⟩:=x3;try dsimp only at h_1
  refine AGet.mk _ (dD hg ht hx3) ?_;cbv;obtain⟨x4,hx4,h_1⟩:=af h_1;try dsimp only at h_1
  refine ACall.mk _ _ rfl (hF _ _ _ (mq hg ht hx4)) (.inl rfl) (nb rfl) ?_;cbv
  cases hb2:x4
  rotate_left
  ·rw[ab hb2] at h_1;cbv;try rw[hg] at h_1
   try rw[ht] at h_1
   refine⟨⟨(n1,(wrap .i64 (add v1 1)),w1),hs1.1,hs1.2,h_1⟩,Wk.of [(0,some 0),(1,some 1),(2,some 2)] rfl rfl ?_ ?_,Nat.lt_succ_self _⟩
   ·cbv;all_goals exact⟨⟨_,rfl,rfl⟩,⟨_,rfl,rfl⟩,⟨_,rfl,rfl⟩,⟨_,rfl,rfl⟩,trivial⟩
   cbv;all_goals exact⟨⟨_,rfl,_,rfl,rfl,rfl,rfl,trivial⟩,⟨_,rfl,rfl⟩,⟨_,rfl,rfl⟩,trivial⟩
  rw[aa hb2] at h_1;cbv;obtain⟨l2,hl2,h_1⟩:=ah h_1;try dsimp only at h_1
  refine ANew.mk (d_I64 l2) (dlen (d_I64 l2)) (by rw[←hl2];exact dB hg ht [v1]) (by rw[←hl2];exact cH hg ht [v1]) ?_;cbv;obtain⟨hc2,h_1⟩:=aj h_1;refine AStep.mk ⟨⟨rfl,(ak hg ht _)⟩,(fw hg ht (ak hg ht _) rfl hc2)⟩ ?_;cbv;obtain⟨l3,hl3,h_1⟩:=ah h_1;try dsimp only at h_1
  refine ANew.mk (d_I64 l3) (dlen (d_I64 l3)) (by rw[←hl3];exact kw hg ht (ak hg ht _) rfl) (by rw[←hl3];exact iG hg ht (ak hg ht _) rfl) ?_;cbv;try rw[hg] at h_1
  try rw[ht] at h_1
  refine⟨⟨(n1,(wrap .i64 (add v1 1)),l3),hs1.1,hs1.2,h_1⟩,Wk.of [(0,some 0),(1,some 307),(2,some 2)] rfl rfl ?_ ?_,Nat.lt_succ_self _⟩
  ·cbv;all_goals exact⟨⟨_,rfl,rfl⟩,⟨_,rfl,rfl⟩,⟨_,rfl,rfl⟩,⟨_,rfl,rfl⟩,trivial⟩
  cbv;all_goals exact⟨⟨_,rfl,_,rfl,rfl,rfl,rfl,trivial⟩,⟨_,rfl,rfl⟩,⟨_,rfl,rfl⟩,trivial⟩
 rintro y1 hy1;replace hy1:=hy1.symm;subst hy1;try dsimp only[lr,lrL,lrp,aZ] at h
 cbv;obtain rfl:=Option.some.inj h;exact ARet.mk ⟨rfl,(ak hg ht _)⟩ hX.symm
def ir20:J:=js [jm 4 kf] [0,1] (.seq (js [jm 6 0,jq 7 (.len false 6),jm 8 1,jq 9 (.len false 8),jb 10 .neq .i 7 9] [0,1,10] (.cond 10 (js [jm 4 kf] [4] .ret) .skip)) (.seq (js [jm 5 (ki 0)] [0,1,5] (.bl 0 (.seq (js [jm 11 5,jm 12 0,jq 13 (.len false 12),jb 14 .lss .i 11 13] [0,1,5,14] (.cond 14 .skip (.exit 0))) (.seq (.block 1 (.seq (.reg (some [[],[],[0,1],[0,1,2],[],[],[4,5],[4,5,6],[0,1,2,3,4,5,6,7]]) [jm 17 0,jm 18 5,ja 19 6 17 18,jl 20 6 19,jm 21 1,jm 22 5,ja 23 6 21 22,jl 24 6 23,jq 25 (.eqs true [.i,.i,.i,.s,.i,.i] 20 24)] [0,1,5,25]) (.cond 25 (js [jm 4 kf] [4] .ret) .skip))) (.reg none [jm 15 5,jb 16 .add .i 15 (ki 1),jm 5 16] [0,1,5]))))) (js [jm 4 kt] [4] .ret)))
def rv20:List RV:=[.t 4]
def eG (g:G) (t:TE) (a1:List Scan):List Scan→Int→Option (LR Bool Unit)
 |[],v1=>
  some (LR.out ())
 |z1::ls1,v1=>
  gt a1 (g.nat v1) fun x1=>
  br (g.all [(g.eq z1.Thing x1.Thing),(g.eq z1.At x1.At),(g.eq z1.Kind x1.Kind),(g.seq z1.Place x1.Place),(g.eq z1.Trip.Leg x1.Trip.Leg),(g.eq z1.Trip.Day x1.Trip.Day)])
  (
   eG g t a1 ls1 (g.wrap .i64 (g.add v1 1)))
  (
   some (LR.ret false))
def n5 (g:G) (t:TE) (a0:List Scan) (a1:List Scan):Option Bool:=
 br (g.eq (g.llen (t.r_Scan a0)) (g.llen (t.r_Scan a1)))
 (
  cl (eG g t a1 a0 0) fun o1=>lr o1 fun y1=>
  some true)
 (
  some false)
theorem zT {g:G} {t:TE} {a0:List Scan} {a1:List Scan} {r:Bool} (hg:g=G.real) (ht:t=TE.real) (h:n5 g t a0 a1=some r):Fn Tryz.prog 20 [.c (.s 6 (t.r_Scan a0)),.c (.s 6 (t.r_Scan a1))] (.c (.r (.v (.bool r)))):=by
 obtain⟨X,hX⟩:=aC (.c (.r (.v (.bool r))):X);rw[←hX];refine ay (rvs:=rv20) (j:=ir20) Tryz.func20 rfl (by kernel_rfl) (nb rfl) (by kernel_rfl) ac ?_;intro g2 F hg2 hF;obtain rfl:g2=g:=hg2.unique.trans hg.symm;clear hg2;obtain⟨wrap,lt,_,eq,_,_,_,_,_,_,_,_,_,add,_,_,_,seq,_,_,_,llen,_,_,_,_,_,_,_,_,_,_,_,all⟩:=g2;obtain⟨_,_,r_Scan⟩:=t
 unfold n5 at h;try dsimp only at h
 cbv
 cases hb1:(eq (llen (r_Scan a0)) (llen (r_Scan a1)))
 ·rw[aa hb1] at h;cbv;obtain rfl:=Option.some.inj h;exact ARet.mk trivial hX.symm
 rw[ab hb1] at h;cbv;obtain⟨o1,ho1,h⟩:=af h;try dsimp only at h
 try rw[hg] at ho1
 try rw[ht] at ho1
 refine ABL.mk {p:Nat×Int//p.1≤a0.length∧p.2=((p.1:Nat):Int)∧eG G.real TE.real a1 (List.drop p.1 a0) p.2=some o1} (fun⟨⟨k1,v1⟩,_⟩=>({sl:=[(0,.c (.r (.s 6 (r_Scan a0)))),(1,.c (.r (.s 6 (r_Scan a1)))),(5,.c (.r (.v (.int .i64 v1))))],tab:=[]}:St)) 0 (fun p=>a0.length-p.1.1) ⟨(0,0),Nat.zero_le _,rfl,ho1⟩ (Unit) (fun _=>({sl:=[],tab:=[]}:St)) 0 (fun y=>o1=LR.out y) ?_ ?_ ?_
 ·refine Wk.of [] rfl rfl ?_ ?_
  ·cbv;all_goals exact⟨⟨_,rfl,rfl⟩,⟨_,rfl,rfl⟩,⟨_,rfl,rfl⟩,trivial⟩
  cbv;all_goals exact trivial
 ·rintro⟨⟨k1,v1⟩,hk1,hi1,h_1⟩ hq1;have hm1:=(hq1.1 0 _ _ rfl);try dsimp only at hk1 hi1 h_1
  clear hq1;cbv
  by_cases hc1_:k1<a0.length
  ·have hb2:lt v1 (llen (r_Scan a0))=true:=jh hg ht hi1 hc1_;have hs1:=mN hg ht hi1 hc1_ hm1;obtain⟨z1,hz1⟩:=aG hc1_;rw[ax hz1] at h_1;rw[eG] at h_1;obtain⟨z1_Thing,z1_At,z1_Kind,z1_Place,⟨z1_Trip_Leg,z1_Trip_Day⟩⟩:=z1;try rw[←hg] at h_1
   try rw[←ht] at h_1
   try dsimp only at h_1
   rw[hb2];cbv;refine AStep.mk (ez hi1) ?_;cbv;refine AGet.mk _ (iZ hg ht hi1 hz1) ?_;cbv;refine AStep.mk (ez hi1) ?_;cbv;obtain⟨x1,hx1,h_1⟩:=aD h_1;obtain⟨x1_Thing,x1_At,x1_Kind,x1_Place,⟨x1_Trip_Leg,x1_Trip_Day⟩⟩:=x1;try dsimp only at h_1
   refine AGet.mk _ (kK hg ht hx1) ?_;cbv
   cases hb3:(all [(eq z1_Thing x1_Thing),(eq z1_At x1_At),(eq z1_Kind x1_Kind),(seq z1_Place x1_Place),(eq z1_Trip_Leg x1_Trip_Leg),(eq z1_Trip_Day x1_Trip_Day)])
   ·rw[aa hb3] at h_1;cbv;obtain rfl:=Option.some.inj h_1;try dsimp only[lr,lrL,lrp,aZ] at h
    obtain rfl:=Option.some.inj h;exact ARet.mk trivial hX.symm
   rw[ab hb3] at h_1;cbv;try rw[hg] at h_1
   try rw[ht] at h_1
   refine⟨⟨(k1+1,(wrap .i64 (add v1 1))),hc1_,hs1,h_1⟩,Wk.of [] rfl rfl ?_ ?_,aK hc1_⟩
   ·cbv;all_goals exact⟨⟨_,rfl,rfl⟩,⟨_,rfl,rfl⟩,⟨_,rfl,rfl⟩,trivial⟩
   cbv;all_goals exact trivial
  have hb2:lt v1 (llen (r_Scan a0))=false:=iT hg ht hi1 hc1_;rw[List.drop_of_length_le (Nat.le_of_not_lt hc1_)] at h_1;rw[eG] at h_1;try rw[←hg] at h_1
  try rw[←ht] at h_1
  try dsimp only at h_1
  rw[hb2];cbv;refine⟨(),Wk.of [] rfl rfl ?_ ?_,(Option.some.inj h_1).symm⟩
  ·cbv;all_goals exact trivial
  cbv;all_goals exact trivial
 rintro _ hy1;replace hy1:=hy1.symm;subst hy1;try dsimp only[lr,lrL,lrp,aZ] at h
 cbv;obtain rfl:=Option.some.inj h;exact ARet.mk trivial hX.symm
def ir21:J:=js [jq 3 (.box 0),jq 6 (.mv (.k (.c (.n 6))))] [1,2,3] (js [jq 10 (.bsl 6 []),jm 7 10] [1,2,3,7] (.seq (js [jl 11 3 3,jm 12 1,jm 13 2,jc 14 18 [11,12,13],jq 15 (.len false 14),jm 16 (ki 0)] [3,7,14,15,16] (.bl 0 (js [jb 17 .lss .i 16 15] [3,7,14,15,16,17] (.seq (.cond 17 .skip (.exit 0)) (.seq (.block 1 (js [ja 18 6 14 16,jl 19 6 18,jq 9 (.alloc [.r (.v (.int .i64 0)),.r (.v (.int .i64 0)),.r (.v (.int .i64 0)),.r (.v (.string .empty)),.r (.v (.int .i64 0)),.r (.v (.int .i64 0))]),jp (.st 6 9 19)] [3,7,9,14,15,16] (.seq (.reg (some [[],[0],[0,1],[0,1,2],[0,1,2,3],[0,1,2,3],[0,1,2,3],[0,1,2,3,6],[0,1,2,3,6,7],[0,1,2,3,5,6,7,8],[0,1,2,3,5,6,7,8,9],[0,1,2,3],[0,1,2,3,4,5,6,7,8,9,10,11],[0,1,2,3,4,5,6,7,8,9,10,11,12]]) [jm 20 7,jq 21 (.len false 20),jb 22 .eql .i 21 (ki 0),jm 23 22,jv 24 23 (.ld true 3 3),jv 25 23 (.mv 7),jv 26 23 (.mv 7),jv 27 23 (.len false 26),jv 28 23 (.bin .sub .i 27 (ki 1)),jv 29 23 (.ia 6 25 28),jv 30 23 (.ld true 6 29),jv 31 23 (.ld true 6 9),jv 32 23 (.call 48 true [24,30,31]),jq 33 (.pick 23 kt 32)] [3,7,9,14,15,16,33]) (.cond 33 (.reg none [jm 34 7,jl 35 6 9,jq 36 (.bsl 6 [35]),jq 37 (.app 6 56 true 34 36),jm 7 37] [3,7,14,15,16]) .skip)))) (.reg none [jb 38 .add .i 16 (ki 1),jm 16 38] [3,7,14,15,16])))))) (js [jm 39 7,jm 6 39] [6] .ret)))
def rv21:List RV:=[.t 6]
def cj (g:G) (t:TE) (a0:Network) (x1:List Scan):Nat→Int→List Scan→Option (List Scan)
 |0,v1,w1=>
  some w1
 |n1+1,v1,w1=>
  gt x1 (g.nat v1) fun x2=>
  br (g.eq (g.int (g.dlen (t.d_Scan w1))) 0)
  (
   lP ([(Scan.mk x2.Thing x2.At x2.Kind x2.Place (Trip.mk x2.Trip.Leg x2.Trip.Day))]) fun(l2:List Scan)=>
   gd (((w1.length+l2.length)*56≤70368744177664))<|
   lP (w1++l2) fun(l3:List Scan)=>
   cj g t a0 x1 n1 (g.wrap .i64 (g.add v1 1)) l3)
  (
   gd (((0:Int)≤(g.wrap .i64 (g.sub (g.int (g.dlen (t.d_Scan w1))) 1))∧(g.wrap .i64 (g.sub (g.int (g.dlen (t.d_Scan w1))) 1))<(((g.dlen (t.d_Scan w1)):Nat):Int)))<|
   gt w1 (g.nat (g.wrap .i64 (g.sub (g.int (g.dlen (t.d_Scan w1))) 1))) fun x3=>
   cl (fF g t a0 (Scan.mk x3.Thing x3.At x3.Kind x3.Place (Trip.mk x3.Trip.Leg x3.Trip.Day)) (Scan.mk x2.Thing x2.At x2.Kind x2.Place (Trip.mk x2.Trip.Leg x2.Trip.Day))) fun x4=>
   br x4
   (
    lP ([(Scan.mk x2.Thing x2.At x2.Kind x2.Place (Trip.mk x2.Trip.Leg x2.Trip.Day))]) fun(l4:List Scan)=>
    gd (((w1.length+l4.length)*56≤70368744177664))<|
    lP (w1++l4) fun(l5:List Scan)=>
    cj g t a0 x1 n1 (g.wrap .i64 (g.add v1 1)) l5)
   (
    cj g t a0 x1 n1 (g.wrap .i64 (g.add v1 1)) w1))
def gC (g:G) (t:TE) (a0:Network) (a1:List Scan) (a2:Int):Option (List Scan):=
 lP ([]) fun(l1:List Scan)=>
 cl (gN g t a0 a1 a2) fun x1=>
 gd (((g.int (g.dlen (t.d_Scan x1)))≤9223372036854775807))<|
 cl (cj g t a0 x1 (aA 0 (g.int (g.dlen (t.d_Scan x1)))) 0 l1) fun y1=>
 some y1
theorem lf {g:G} {t:TE} {a0:Network} {a1:List Scan} {a2:Int} {r:List Scan} (hg:g=G.real) (ht:t=TE.real) (h:gC g t a0 a1 a2=some r):Fn Tryz.prog 21 [.g (Network.rs t a0),.c (.s 6 (t.r_Scan a1)),.c (.v (.int .i64 a2))] (.c (.o 6 (t.d_Scan r))):=by
 obtain⟨X,hX⟩:=aC (.c (.o 6 (t.d_Scan r)):X);rw[←hX];refine ay (rvs:=rv21) (j:=ir21) Tryz.func21 rfl (by kernel_rfl) (nb rfl) (by kernel_rfl) ac ?_;intro g2 F hg2 hF;obtain rfl:g2=g:=hg2.unique.trans hg.symm;clear hg2;obtain⟨wrap,lt,_,eq,_,_,_,_,_,_,_,_,int,add,_,_,_,_,_,_,_,_,_,_,dlen⟩:=g2;obtain⟨_,_,_,d_Scan,r_Leg,_,r_I64⟩:=t
 obtain⟨a0_Legs,a0_Off,a0_Change⟩:=a0;unfold gC at h;try dsimp only at h
 cbv;obtain⟨l1,hl1,h⟩:=ah h;try dsimp only at h
 refine ANew.mk (d_Scan l1) (dlen (d_Scan l1)) (by rw[←hl1];exact cG hg ht []) (by rw[←hl1];exact bV hg ht []) ?_;cbv;obtain⟨x1,hx1,h⟩:=af h;try dsimp only at h
 refine ACall.mk _ _ rfl (hF _ _ _ (lm hg ht hx1)) (.inl rfl) (nb rfl) ?_;cbv;obtain⟨hB1,h⟩:=aj h;obtain⟨o1,ho1,h⟩:=af h;try dsimp only at h
 try rw[hg] at ho1
 try rw[ht] at ho1
 refine ABL.mk {p:Nat×Int×List Scan//p.1=aA p.2.1 (int (dlen (d_Scan x1)))∧0≤p.2.1∧cj G.real TE.real (Network.mk a0_Legs a0_Off a0_Change) x1 p.1 p.2.1 p.2.2=some o1} (fun⟨⟨n1,v1,w1⟩,_⟩=>({sl:=[(3,.c (.p 0 3 0 0)),(7,.c (.f 1 6 0 (dlen (d_Scan w1)))),(14,.c (.f 2 6 0 (dlen (d_Scan x1)))),(15,.c (.r (.v (.int .i64 (int (dlen (d_Scan x1))))))),(16,.c (.r (.v (.int .i64 v1))))],tab:=[(0,some (.foc 3 [] [.r (.s 6 (r_Leg a0_Legs)),.r (.s 1 (r_I64 a0_Off)),.r (.v (.int .i64 a0_Change))] [])),(1,some (.arr 6 (d_Scan w1))),(2,some (.arr 6 (d_Scan x1)))]}:St)) 3 (fun p=>p.1.1) ⟨(aA 0 (int (dlen (d_Scan x1))),0,l1),rfl,Int.le_refl _,ho1⟩ (List Scan) (fun y1=>({sl:=[(7,.c (.f 0 6 0 (dlen (d_Scan y1))))],tab:=[(0,some (.arr 6 (d_Scan y1)))]}:St)) 1 (fun y=>o1=y) ?_ ?_ ?_
 ·refine Wk.of [(0,some 0),(1,some 32),(2,some 112)] rfl rfl ?_ ?_
  ·cbv;all_goals exact⟨⟨_,rfl,rfl⟩,⟨_,rfl,rfl⟩,⟨_,rfl,rfl⟩,⟨_,rfl,rfl⟩,⟨_,rfl,rfl⟩,trivial⟩
  cbv;all_goals exact⟨⟨_,rfl,_,rfl,rfl,rfl,rfl,trivial⟩,⟨_,rfl,rfl⟩,⟨_,rfl,rfl⟩,trivial⟩
 ·rintro⟨⟨n1,v1,w1⟩,hn1,hi1,h_1⟩ hq1;try dsimp only at hn1 hi1 h_1
  clear hq1;cbv;rcases n1 with _|n1
  ·have hb1:lt v1 (int (dlen (d_Scan x1)))=false:=bY hg hn1;rw[cj] at h_1;try rw[←hg] at h_1
   try rw[←ht] at h_1
   try dsimp only at h_1
   rw[hb1];cbv;refine⟨w1,Wk.of [(0,some 1)] rfl rfl ?_ ?_,(Option.some.inj h_1).symm⟩
   ·cbv;all_goals exact⟨⟨_,rfl,rfl⟩,trivial⟩
   cbv;all_goals exact⟨⟨_,rfl,rfl⟩,trivial⟩
  have hb1:lt v1 (int (dlen (d_Scan x1)))=true:=c7 hg hn1;have hl1:=fv hn1;have hs1:=d6 hg hn1 hi1 hB1 (by decide);rw[cj] at h_1;try rw[←hg] at h_1
  try rw[←ht] at h_1
  try dsimp only at h_1
  rw[hb1];cbv;refine AStep.mk (lz hg hi1 hl1) ?_;cbv;obtain⟨x2,hx2,h_1⟩:=aD h_1;obtain⟨x2_Thing,x2_At,x2_Kind,x2_Place,⟨x2_Trip_Leg,x2_Trip_Day⟩⟩:=x2;try dsimp only at h_1
  refine AGet.mk _ (dD hg ht hx2) ?_;cbv
  cases hb2:(eq (int (dlen (d_Scan w1))) 0)
  rotate_left
  ·rw[ab hb2] at h_1;cbv;iterate 9 try(rw[hb2];cbv)
   obtain⟨l2,hl2,h_1⟩:=ah h_1;try dsimp only at h_1
   refine ANew.mk (d_Scan l2) (dlen (d_Scan l2)) (by rw[←hl2];exact cG hg ht [(Scan.mk x2_Thing x2_At x2_Kind x2_Place (Trip.mk x2_Trip_Leg x2_Trip_Day))]) (by rw[←hl2];exact bV hg ht [(Scan.mk x2_Thing x2_At x2_Kind x2_Place (Trip.mk x2_Trip_Leg x2_Trip_Day))]) ?_;cbv;obtain⟨hc1,h_1⟩:=aj h_1;refine AStep.mk ⟨⟨rfl,(ao hg ht _)⟩,(cX hg ht (ao hg ht _) rfl hc1)⟩ ?_;cbv;obtain⟨l3,hl3,h_1⟩:=ah h_1;try dsimp only at h_1
   refine ANew.mk (d_Scan l3) (dlen (d_Scan l3)) (by rw[←hl3];exact ff hg ht (ao hg ht _) rfl) (by rw[←hl3];exact ek hg ht (ao hg ht _) rfl) ?_;cbv;try rw[hg] at h_1
   try rw[ht] at h_1
   refine⟨⟨(n1,(wrap .i64 (add v1 1)),l3),hs1.1,hs1.2,h_1⟩,Wk.of [(0,some 0),(1,some 355),(2,some 2)] rfl rfl ?_ ?_,Nat.lt_succ_self _⟩
   ·cbv;all_goals exact⟨⟨_,rfl,rfl⟩,⟨_,rfl,rfl⟩,⟨_,rfl,rfl⟩,⟨_,rfl,rfl⟩,⟨_,rfl,rfl⟩,trivial⟩
   cbv;all_goals exact⟨⟨_,rfl,_,rfl,rfl,rfl,rfl,trivial⟩,⟨_,rfl,rfl⟩,⟨_,rfl,rfl⟩,trivial⟩
  rw[aa hb2] at h_1;cbv;iterate 5 try(rw[hb2];cbv)
  obtain⟨hc2,h_1⟩:=aj h_1;refine AStep.mk hc2 ?_;cbv;try(rw[hb2];cbv)
  obtain⟨x3,hx3,h_1⟩:=aD h_1;obtain⟨x3_Thing,x3_At,x3_Kind,x3_Place,⟨x3_Trip_Leg,x3_Trip_Day⟩⟩:=x3;try dsimp only at h_1
  refine AGet.mk _ (dD hg ht hx3) ?_;cbv;iterate 2 try(rw[hb2];cbv)
  obtain⟨x4,hx4,h_1⟩:=af h_1;try dsimp only at h_1
  refine ACall.mk _ _ rfl (hF _ _ _ (mq hg ht hx4)) (.inl rfl) (nb rfl) ?_;cbv;try(rw[hb2];cbv)
  cases hb3:x4
  ·rw[aa hb3] at h_1;cbv;try rw[hg] at h_1
   try rw[ht] at h_1
   refine⟨⟨(n1,(wrap .i64 (add v1 1)),w1),hs1.1,hs1.2,h_1⟩,Wk.of [(0,some 0),(1,some 1),(2,some 2)] rfl rfl ?_ ?_,Nat.lt_succ_self _⟩
   ·cbv;all_goals exact⟨⟨_,rfl,rfl⟩,⟨_,rfl,rfl⟩,⟨_,rfl,rfl⟩,⟨_,rfl,rfl⟩,⟨_,rfl,rfl⟩,trivial⟩
   cbv;all_goals exact⟨⟨_,rfl,_,rfl,rfl,rfl,rfl,trivial⟩,⟨_,rfl,rfl⟩,⟨_,rfl,rfl⟩,trivial⟩
  rw[ab hb3] at h_1;cbv;obtain⟨l4,hl4,h_1⟩:=ah h_1;try dsimp only at h_1
  refine ANew.mk (d_Scan l4) (dlen (d_Scan l4)) (by rw[←hl4];exact cG hg ht [(Scan.mk x2_Thing x2_At x2_Kind x2_Place (Trip.mk x2_Trip_Leg x2_Trip_Day))]) (by rw[←hl4];exact bV hg ht [(Scan.mk x2_Thing x2_At x2_Kind x2_Place (Trip.mk x2_Trip_Leg x2_Trip_Day))]) ?_;cbv;obtain⟨hc3,h_1⟩:=aj h_1;refine AStep.mk ⟨⟨rfl,(ao hg ht _)⟩,(cX hg ht (ao hg ht _) rfl hc3)⟩ ?_;cbv;obtain⟨l5,hl5,h_1⟩:=ah h_1;try dsimp only at h_1
  refine ANew.mk (d_Scan l5) (dlen (d_Scan l5)) (by rw[←hl5];exact ff hg ht (ao hg ht _) rfl) (by rw[←hl5];exact ek hg ht (ao hg ht _) rfl) ?_;cbv;try rw[hg] at h_1
  try rw[ht] at h_1
  refine⟨⟨(n1,(wrap .i64 (add v1 1)),l5),hs1.1,hs1.2,h_1⟩,Wk.of [(0,some 0),(1,some 355),(2,some 2)] rfl rfl ?_ ?_,Nat.lt_succ_self _⟩
  ·cbv;all_goals exact⟨⟨_,rfl,rfl⟩,⟨_,rfl,rfl⟩,⟨_,rfl,rfl⟩,⟨_,rfl,rfl⟩,⟨_,rfl,rfl⟩,trivial⟩
  cbv;all_goals exact⟨⟨_,rfl,_,rfl,rfl,rfl,rfl,trivial⟩,⟨_,rfl,rfl⟩,⟨_,rfl,rfl⟩,trivial⟩
 rintro y1 hy1;replace hy1:=hy1.symm;subst hy1;try dsimp only[lr,lrL,lrp,aZ] at h
 cbv;obtain rfl:=Option.some.inj h;exact ARet.mk ⟨rfl,(ao hg ht _)⟩ hX.symm
def ir50:J:=js [jq 4 (.box 0),jq 8 (.alloc [.r (.v (.int .i64 0)),.r (.v (.int .i64 0)),.r (.v (.int .i64 0)),.r (.v (.string .empty)),.r (.v (.int .i64 0)),.r (.v (.int .i64 0))]),jm 9 kf] [1,2,3,4,8] (js [jl 12 3 4,jm 13 1,jm 14 2,jc 15 21 [12,13,14],jm 10 15] [3,8,10] (.seq (js [jm 16 10,jq 17 (.len false 16),jb 18 .sub .i 17 (ki 1),jm 11 18] [3,8,10,11] (.bl 0 (.seq (js [jm 19 11,jb 20 .geq .i 19 (ki 0)] [3,8,10,11,20] (.cond 20 .skip (.exit 0))) (.seq (.block 1 (js [jm 23 10,jm 24 11,ja 25 6 23 24,jf 26 1 25,jk 27 26,jm 28 3,jb 29 .leq .i 27 28] [3,8,10,11,29] (.cond 29 (js [jm 30 10,jm 31 11,ja 32 6 30 31,jl 33 6 32,jp (.st 6 8 33),jm 9 kt] [8,9] .ret) .skip))) (.reg none [jm 21 11,jb 22 .sub .i 21 (ki 1),jm 11 22] [3,8,10,11]))))) (js [jq 34 (.bld [.r (.v (.int .i64 0)),.r (.v (.int .i64 0)),.r (.v (.int .i64 0)),.r (.v (.string .empty)),.r (.v (.int .i64 0)),.r (.v (.int .i64 0))] []),jp (.st 6 8 34),jm 9 kf] [8,9] .ret)))
def rv50:List RV:=[.c 8 true 6,.t 9]
def cO (g:G) (t:TE) (a3:Int) (x1:List Scan):Nat→Int→Option (LR (Scan×Bool) Unit)
 |0,_=>none
 |n1+1,v1=>
  br (g.le 0 v1)
  (
   gd (((0:Int)≤v1∧v1<(((g.dlen (t.d_Scan x1)):Nat):Int)))<|
   gt x1 (g.nat v1) fun x2=>
   br (g.le x2.At a3)
   (
    gd (((0:Int)≤v1∧v1<(((g.dlen (t.d_Scan x1)):Nat):Int)))<|
    some (LR.ret (((Scan.mk x2.Thing x2.At x2.Kind x2.Place (Trip.mk x2.Trip.Leg x2.Trip.Day)),true))))
   (
    cO g t a3 x1 n1 (g.wrap .i64 (g.sub v1 1))))
  (
   some (LR.out ()))
def iI (g:G) (t:TE) (a0:Network) (a1:List Scan) (a2:Int) (a3:Int):Option (Scan×Bool):=
 cl (gC g t a0 a1 a2) fun x1=>
 cl (cO g t a3 x1 1000000000 (g.wrap .i64 (g.sub (g.int (g.dlen (t.d_Scan x1))) 1))) fun o1=>lr o1 fun y1=>
 some (((Scan.mk 0 0 0 ByteArray.empty (Trip.mk 0 0)),false))
theorem uW {g:G} {t:TE} {a0:Network} {a1:List Scan} {a2:Int} {a3:Int} {r:Scan×Bool} (hg:g=G.real) (ht:t=TE.real) (h:iI g t a0 a1 a2 a3=some r):Fn Tryz.prog 50 [.g (Network.rs t a0),.c (.s 6 (t.r_Scan a1)),.c (.v (.int .i64 a2)),.c (.v (.int .i64 a3))] (.u [.g (Scan.ds t r.1),.c (.r (.v (.bool r.2)))]):=by
 obtain⟨X,hX⟩:=aC (.u [.g (Scan.ds t r.1),.c (.r (.v (.bool r.2)))]:X);rw[←hX];refine ay (rvs:=rv50) (j:=ir50) Tryz.func50 rfl (by kernel_rfl) (nb rfl) (by kernel_rfl) ac ?_;intro g2 F hg2 hF;obtain rfl:g2=g:=hg2.unique.trans hg.symm;clear hg2;obtain⟨wrap,_,le,_,_,_,_,_,_,_,_,_,int,_,sub,_,_,_,_,_,_,_,_,_,dlen⟩:=g2;obtain⟨_,_,_,d_Scan⟩:=t
 obtain⟨a0_Legs,a0_Off,a0_Change⟩:=a0;unfold iI at h;try dsimp only at h
 cbv;obtain⟨x1,hx1,h⟩:=af h;try dsimp only at h
 refine ACall.mk _ _ rfl (hF _ _ _ (lf hg ht hx1)) (.inl rfl) (nb rfl) ?_;cbv;obtain⟨o1,ho1,h⟩:=af h;try dsimp only at h
 try rw[hg] at ho1
 try rw[ht] at ho1
 refine ABL.mk {p:Nat×Int//cO G.real TE.real a3 x1 p.1 p.2=some o1} (fun⟨⟨n1,v1⟩,_⟩=>({sl:=[(3,.c (.r (.v (.int .i64 a3)))),(8,.c (.p 0 6 0 0)),(10,.c (.f 1 6 0 (dlen (d_Scan x1)))),(11,.c (.r (.v (.int .i64 v1))))],tab:=[(0,some (.foc 6 [] [.r (.v (.int .i64 0)),.r (.v (.int .i64 0)),.r (.v (.int .i64 0)),.r (.v (.string ByteArray.empty)),.r (.v (.int .i64 0)),.r (.v (.int .i64 0))] [])),(1,some (.arr 6 (d_Scan x1)))]}:St)) 2 (fun p=>p.1.1) ⟨(1000000000,(wrap .i64 (sub (int (dlen (d_Scan x1))) 1))),ho1⟩ (Unit) (fun _=>({sl:=[(8,.c (.p 0 6 0 0))],tab:=[(0,some (.foc 6 [] [.r (.v (.int .i64 0)),.r (.v (.int .i64 0)),.r (.v (.int .i64 0)),.r (.v (.string ByteArray.empty)),.r (.v (.int .i64 0)),.r (.v (.int .i64 0))] []))]}:St)) 1 (fun y=>o1=LR.out y) ?_ ?_ ?_
 ·refine Wk.of [(0,some 16),(1,some 96)] rfl rfl ?_ ?_
  ·cbv;all_goals exact⟨⟨_,rfl,rfl⟩,⟨_,rfl,rfl⟩,⟨_,rfl,rfl⟩,⟨_,rfl,rfl⟩,trivial⟩
  cbv;all_goals exact⟨⟨_,rfl,_,rfl,rfl,rfl,rfl,rfl,rfl,rfl,trivial⟩,⟨_,rfl,rfl⟩,trivial⟩
 ·rintro⟨⟨n1,v1⟩,h_1⟩ hq1;try dsimp only at h_1
  clear hq1;rcases n1 with _|n1
  ·rw[cO] at h_1;cases h_1
  rw[cO] at h_1;try rw[←hg] at h_1
  try rw[←ht] at h_1
  try dsimp only at h_1
  cbv
  cases hb1:(le 0 v1)
  ·rw[aa hb1] at h_1;cbv;refine⟨(),Wk.of [(0,some 0)] rfl rfl ?_ ?_,(Option.some.inj h_1).symm⟩
   ·cbv;all_goals exact⟨⟨_,rfl,rfl⟩,trivial⟩
   cbv;all_goals exact⟨⟨_,rfl,_,rfl,rfl,rfl,rfl,rfl,rfl,rfl,trivial⟩,trivial⟩
  rw[ab hb1] at h_1;cbv;obtain⟨hc1,h_1⟩:=aj h_1;refine AStep.mk hc1 ?_;cbv;obtain⟨x2,hx2,h_1⟩:=aD h_1;obtain⟨x2_Thing,x2_At,x2_Kind,x2_Place,⟨x2_Trip_Leg,x2_Trip_Day⟩⟩:=x2;try dsimp only at h_1
  refine AGet.mk _ (dD hg ht hx2) ?_;cbv
  cases hb2:(le x2_At a3)
  rotate_left
  ·rw[ab hb2] at h_1;cbv;obtain⟨hc2,h_1⟩:=aj h_1;refine AStep.mk hc2 ?_;cbv;refine AGet.mk _ (dD hg ht hx2) ?_;cbv;obtain rfl:=Option.some.inj h_1;try dsimp only[lr,lrL,lrp,aZ] at h
   obtain rfl:=Option.some.inj h;exact ARet.mk trivial hX.symm
  rw[aa hb2] at h_1;cbv;try rw[hg] at h_1
  try rw[ht] at h_1
  refine⟨⟨(n1,(wrap .i64 (sub v1 1))),h_1⟩,Wk.of [(0,some 0),(1,some 1)] rfl rfl ?_ ?_,Nat.lt_succ_self _⟩
  ·cbv;all_goals exact⟨⟨_,rfl,rfl⟩,⟨_,rfl,rfl⟩,⟨_,rfl,rfl⟩,⟨_,rfl,rfl⟩,trivial⟩
  cbv;all_goals exact⟨⟨_,rfl,_,rfl,rfl,rfl,rfl,rfl,rfl,rfl,trivial⟩,⟨_,rfl,rfl⟩,trivial⟩
 rintro _ hy1;replace hy1:=hy1.symm;subst hy1;try dsimp only[lr,lrL,lrp,aZ] at h
 cbv;obtain rfl:=Option.some.inj h;exact ARet.mk trivial hX.symm
def ir52:J:=js [jq 4 (.box 0),jq 8 (.alloc [.r (.v (.int .i64 0)),.r (.v (.int .i64 0)),.r (.v (.int .i64 0)),.r (.v (.string .empty)),.r (.v (.int .i64 0)),.r (.v (.int .i64 0))]),jm 9 kf] [1,2,3,4,8] (.seq (js [jl 12 3 4,jm 13 1,jm 14 2,jc 15 21 [12,13,14],jq 16 (.len false 15),jm 17 (ki 0)] [3,8,15,16,17] (.bl 0 (js [jb 18 .lss .i 17 16] [3,8,15,16,17,18] (.seq (.cond 18 .skip (.exit 0)) (.seq (.block 1 (js [ja 19 6 15 17,jl 20 6 19,jq 11 (.alloc [.r (.v (.int .i64 0)),.r (.v (.int .i64 0)),.r (.v (.int .i64 0)),.r (.v (.string .empty)),.r (.v (.int .i64 0)),.r (.v (.int .i64 0))]),jp (.st 6 11 20)] [3,8,11,15,16,17] (js [jf 21 1 11,jk 22 21,jm 23 3,jb 24 .gtr .i 22 23] [3,8,11,15,16,17,24] (.cond 24 (js [jl 25 6 11,jp (.st 6 8 25),jm 9 kt] [8,9] .ret) .skip)))) (.reg none [jb 26 .add .i 17 (ki 1),jm 17 26] [3,8,15,16,17])))))) (js [jq 27 (.bld [.r (.v (.int .i64 0)),.r (.v (.int .i64 0)),.r (.v (.int .i64 0)),.r (.v (.string .empty)),.r (.v (.int .i64 0)),.r (.v (.int .i64 0))] []),jp (.st 6 8 27),jm 9 kf] [8,9] .ret))
def rv52:List RV:=[.c 8 true 6,.t 9]
def cQ (g:G) (t:TE) (a3:Int) (x1:List Scan):Nat→Int→Option (LR (Scan×Bool) Unit)
 |0,v1=>
  some (LR.out ())
 |n1+1,v1=>
  gt x1 (g.nat v1) fun x2=>
  br (g.lt a3 x2.At)
  (
   some (LR.ret (((Scan.mk x2.Thing x2.At x2.Kind x2.Place (Trip.mk x2.Trip.Leg x2.Trip.Day)),true))))
  (
   cQ g t a3 x1 n1 (g.wrap .i64 (g.add v1 1)))
def iF (g:G) (t:TE) (a0:Network) (a1:List Scan) (a2:Int) (a3:Int):Option (Scan×Bool):=
 cl (gC g t a0 a1 a2) fun x1=>
 gd (((g.int (g.dlen (t.d_Scan x1)))≤9223372036854775807))<|
 cl (cQ g t a3 x1 (aA 0 (g.int (g.dlen (t.d_Scan x1)))) 0) fun o1=>lr o1 fun y1=>
 some (((Scan.mk 0 0 0 ByteArray.empty (Trip.mk 0 0)),false))
theorem uH {g:G} {t:TE} {a0:Network} {a1:List Scan} {a2:Int} {a3:Int} {r:Scan×Bool} (hg:g=G.real) (ht:t=TE.real) (h:iF g t a0 a1 a2 a3=some r):Fn Tryz.prog 52 [.g (Network.rs t a0),.c (.s 6 (t.r_Scan a1)),.c (.v (.int .i64 a2)),.c (.v (.int .i64 a3))] (.u [.g (Scan.ds t r.1),.c (.r (.v (.bool r.2)))]):=by
 obtain⟨X,hX⟩:=aC (.u [.g (Scan.ds t r.1),.c (.r (.v (.bool r.2)))]:X);rw[←hX];refine ay (rvs:=rv52) (j:=ir52) Tryz.func52 rfl (by kernel_rfl) (nb rfl) (by kernel_rfl) ac ?_;intro g2 F hg2 hF;obtain rfl:g2=g:=hg2.unique.trans hg.symm;clear hg2;obtain⟨wrap,lt,_,_,_,_,_,_,_,_,_,_,int,add,_,_,_,_,_,_,_,_,_,_,dlen⟩:=g2;obtain⟨_,_,_,d_Scan⟩:=t
 obtain⟨a0_Legs,a0_Off,a0_Change⟩:=a0;unfold iF at h;try dsimp only at h
 cbv;obtain⟨x1,hx1,h⟩:=af h;try dsimp only at h
 refine ACall.mk _ _ rfl (hF _ _ _ (lf hg ht hx1)) (.inl rfl) (nb rfl) ?_;cbv;obtain⟨hB1,h⟩:=aj h;obtain⟨o1,ho1,h⟩:=af h;try dsimp only at h
 try rw[hg] at ho1
 try rw[ht] at ho1
 refine ABL.mk {p:Nat×Int//p.1=aA p.2 (int (dlen (d_Scan x1)))∧0≤p.2∧cQ G.real TE.real a3 x1 p.1 p.2=some o1} (fun⟨⟨n1,v1⟩,_⟩=>({sl:=[(3,.c (.r (.v (.int .i64 a3)))),(8,.c (.p 0 6 0 0)),(15,.c (.f 1 6 0 (dlen (d_Scan x1)))),(16,.c (.r (.v (.int .i64 (int (dlen (d_Scan x1))))))),(17,.c (.r (.v (.int .i64 v1))))],tab:=[(0,some (.foc 6 [] [.r (.v (.int .i64 0)),.r (.v (.int .i64 0)),.r (.v (.int .i64 0)),.r (.v (.string ByteArray.empty)),.r (.v (.int .i64 0)),.r (.v (.int .i64 0))] [])),(1,some (.arr 6 (d_Scan x1)))]}:St)) 2 (fun p=>p.1.1) ⟨(aA 0 (int (dlen (d_Scan x1))),0),rfl,Int.le_refl _,ho1⟩ (Unit) (fun _=>({sl:=[(8,.c (.p 0 6 0 0))],tab:=[(0,some (.foc 6 [] [.r (.v (.int .i64 0)),.r (.v (.int .i64 0)),.r (.v (.int .i64 0)),.r (.v (.string ByteArray.empty)),.r (.v (.int .i64 0)),.r (.v (.int .i64 0))] []))]}:St)) 1 (fun y=>o1=LR.out y) ?_ ?_ ?_
 ·refine Wk.of [(0,some 16),(1,some 96)] rfl rfl ?_ ?_
  ·cbv;all_goals exact⟨⟨_,rfl,rfl⟩,⟨_,rfl,rfl⟩,⟨_,rfl,rfl⟩,⟨_,rfl,rfl⟩,⟨_,rfl,rfl⟩,trivial⟩
  cbv;all_goals exact⟨⟨_,rfl,_,rfl,rfl,rfl,rfl,rfl,rfl,rfl,trivial⟩,⟨_,rfl,rfl⟩,trivial⟩
 ·rintro⟨⟨n1,v1⟩,hn1,hi1,h_1⟩ hq1;try dsimp only at hn1 hi1 h_1
  clear hq1;cbv;rcases n1 with _|n1
  ·have hb1:lt v1 (int (dlen (d_Scan x1)))=false:=bY hg hn1;rw[cQ] at h_1;try rw[←hg] at h_1
   try rw[←ht] at h_1
   try dsimp only at h_1
   rw[hb1];cbv;refine⟨(),Wk.of [(0,some 0)] rfl rfl ?_ ?_,(Option.some.inj h_1).symm⟩
   ·cbv;all_goals exact⟨⟨_,rfl,rfl⟩,trivial⟩
   cbv;all_goals exact⟨⟨_,rfl,_,rfl,rfl,rfl,rfl,rfl,rfl,rfl,trivial⟩,trivial⟩
  have hb1:lt v1 (int (dlen (d_Scan x1)))=true:=c7 hg hn1;have hl1:=fv hn1;have hs1:=d6 hg hn1 hi1 hB1 (by decide);rw[cQ] at h_1;try rw[←hg] at h_1
  try rw[←ht] at h_1
  try dsimp only at h_1
  rw[hb1];cbv;refine AStep.mk (lz hg hi1 hl1) ?_;cbv;obtain⟨x2,hx2,h_1⟩:=aD h_1;obtain⟨x2_Thing,x2_At,x2_Kind,x2_Place,⟨x2_Trip_Leg,x2_Trip_Day⟩⟩:=x2;try dsimp only at h_1
  refine AGet.mk _ (dD hg ht hx2) ?_;cbv
  cases hb2:(lt a3 x2_At)
  rotate_left
  ·rw[ab hb2] at h_1;cbv;obtain rfl:=Option.some.inj h_1;try dsimp only[lr,lrL,lrp,aZ] at h
   obtain rfl:=Option.some.inj h;exact ARet.mk trivial hX.symm
  rw[aa hb2] at h_1;cbv;try rw[hg] at h_1
  try rw[ht] at h_1
  refine⟨⟨(n1,(wrap .i64 (add v1 1))),hs1.1,hs1.2,h_1⟩,Wk.of [(0,some 0),(1,some 1)] rfl rfl ?_ ?_,Nat.lt_succ_self _⟩
  ·cbv;all_goals exact⟨⟨_,rfl,rfl⟩,⟨_,rfl,rfl⟩,⟨_,rfl,rfl⟩,⟨_,rfl,rfl⟩,⟨_,rfl,rfl⟩,trivial⟩
  cbv;all_goals exact⟨⟨_,rfl,_,rfl,rfl,rfl,rfl,rfl,rfl,rfl,trivial⟩,⟨_,rfl,rfl⟩,trivial⟩
 rintro _ hy1;replace hy1:=hy1.symm;subst hy1;try dsimp only[lr,lrL,lrp,aZ] at h
 cbv;obtain rfl:=Option.some.inj h;exact ARet.mk trivial hX.symm
end Go.Vs
