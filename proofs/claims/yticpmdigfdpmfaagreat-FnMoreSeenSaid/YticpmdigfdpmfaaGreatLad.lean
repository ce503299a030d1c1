/- Part of the proofs of this seat's laws: Lad. No condition. -/
import Derived.Test.YticpmdigfdpmfaaGreatTy
import Derived.Test.YticpmdigfdpmfaaGreatTIRall
import Derived.Test.YticpmdigfdpmfaaGreatLac
import Derived.Test.YticpmdigfdpmfaaGreatLaa
import Derived.Test.YticpmdigfdpmfaaGreatLab
set_option linter.unusedVariables false
set_option linter.unusedSimpArgs false
set_option linter.unusedSectionVars false
namespace Go.Vs
set_option maxRecDepth 100000
def Gx (s_k0:ByteArray):J:=js [jq 2 (.box 0),jq 3 (.box 1),jq 4 (.mv (.k (.c (.r (.v (.string s_k0))))))] [2,3] (.seq (js [jl 5 3 2,jl 6 6 3,jc 7 91 [5,6],jq 8 (.not 7)] [2,3,8] (.cond 8 (js [jq 4 (.mv (.k (.c (.r (.v (.string s_k0))))))] [4] .ret) .skip)) (.seq (js [jf 9 2 3,jk 10 9] [2,3,10] (.block 0 (js [jb 12 .eql .i 10 (ki 3),jm 11 12] [2,3,10,11] (.cond 11 (js [jf 13 0 2,jk 14 13,jf 15 4 3,jf 16 0 15,jk 17 16,ja 18 6 14 17,jf 19 0 18,jk 20 19,jm 4 20] [4] .ret) (js [jb 22 .eql .i 10 (ki 2),jm 21 22] [2,3,21] (.cond 21 (js [jf 23 0 2,jk 24 23,jf 25 4 3,jf 26 0 25,jk 27 26,ja 28 6 24 27,jf 29 1 28,jk 30 29,jm 4 30] [4] .ret) .skip)))))) (js [jf 31 3 3,jk 32 31,jm 4 32] [4] .ret)))
def Hl:List RV:=[.t 4]
open Go.Proofs Go.IntWalk
set_option linter.unusedVariables false
set_option maxHeartbeats 4000000
def jr (g:G) (t:TE) (a0:Network) (a1:Scan):Option ByteArray:=
 cl (fi g t a0 (Scan.mk a1.Thing a1.At a1.Kind a1.Place (Trip.mk a1.Trip.Leg a1.Trip.Day))) fun x1=>
 br x1
 (
  br (g.eq a1.Kind 3)
  (
   gd (((0:Int)≤a1.Trip.Leg))<|
   gt a0.Legs (g.nat a1.Trip.Leg) fun x2=>
   some x2.From)
  (
   br (g.eq a1.Kind 2)
   (
    gd (((0:Int)≤a1.Trip.Leg))<|
    gt a0.Legs (g.nat a1.Trip.Leg) fun x3=>
    some x3.To)
   (
    some a1.Place)))
 (
  some str_k0)
theorem vU {g:G} {t:TE} {a0:Network} {a1:Scan} {r:ByteArray} (hg:g=G.real) (ht:t=TE.real) (h:jr g t a0 a1=some r):Fn Tryz.prog 147 [.g (Network.rs t a0),.g (Scan.rs t a1)] (.c (.r (.v (.string r)))):=by
 obtain⟨X,hX⟩:=aE (.c (.r (.v (.string r))):X);rw[←hX];refine az (rvs:=Hl) (j:=(Gx str_k0)) Tryz.func147 rfl (by kernel_rfl) (nb rfl) (by kernel_rfl) ac ?_;intro g2 F hg2 hF;obtain rfl:g2=g:=hg2.unique.trans hg.symm;clear hg2;obtain⟨_,_,_,eq⟩:=g2;obtain⟨_⟩:=t
 obtain⟨a0_Legs,a0_Off,a0_Change⟩:=a0;obtain⟨a1_Thing,a1_At,a1_Kind,a1_Place,⟨a1_Trip_Leg,a1_Trip_Day⟩⟩:=a1;unfold jr at h;try dsimp only at h
 obtain⟨s_k0,hs_k0⟩:∃s,str_k0=s:=⟨_,rfl⟩;try rw[hs_k0] at h
 rw[hs_k0];cbv;obtain⟨x1,hx1,h⟩:=ae h;try dsimp only at h
 refine ACall.mk _ _ rfl (hF _ _ _ (gr hg ht hx1)) (.inl rfl) (nb rfl) ?_;cbv
 cases hb1:x1
 ·rw[aa hb1] at h;cbv;obtain rfl:=Option.some.inj h;exact ARet.mk trivial hX.symm
 rw[ab hb1] at h;cbv
 cases hb2:(eq a1_Kind 3)
 rotate_left
 ·rw[ab hb2] at h;cbv;obtain⟨hc1,h⟩:=aj h;refine AStep.mk hc1 ?_;cbv;obtain⟨x2,hx2,h⟩:=aH h;obtain⟨x2_From,x2_To,x2_Start,x2_Takes,x2_Days,x2_Room⟩:=x2;try dsimp only at h
  refine AGet.mk _ (aX hg ht hx2) ?_;cbv;obtain rfl:=Option.some.inj h;exact ARet.mk trivial hX.symm
 rw[aa hb2] at h;cbv
 cases hb3:(eq a1_Kind 2)
 ·rw[aa hb3] at h;cbv;obtain rfl:=Option.some.inj h;exact ARet.mk trivial hX.symm
 rw[ab hb3] at h;cbv;obtain⟨hc2,h⟩:=aj h;refine AStep.mk hc2 ?_;cbv;obtain⟨x3,hx3,h⟩:=aH h;obtain⟨x3_From,x3_To,x3_Start,x3_Takes,x3_Days,x3_Room⟩:=x3;try dsimp only at h
 refine AGet.mk _ (aX hg ht hx3) ?_;cbv;obtain rfl:=Option.some.inj h;exact ARet.mk trivial hX.symm
def G0:J:=js [jq 2 (.box 0),jq 3 (.box 1),jq 4 (.alloc [.r (.v (.string .empty)),.r (.v (.int .i64 0))])] [2,3,4] (.seq (js [jl 5 3 2,jl 6 6 3,jc 7 91 [5,6],jq 8 (.not 7)] [2,3,4,8] (.cond 8 (js [jq 9 (.bld [.r (.v (.string .empty)),.r (.v (.int .i64 0))] []),jp (.st 2 4 9)] [4] .ret) .skip)) (.seq (js [jf 10 2 3,jk 11 10,jb 12 .eql .i 11 (ki 3)] [2,3,4,12] (.cond 12 (.seq (.reg (some [[],[0],[],[2],[2,3],[0,1,2,3,4],[0,1,2,3,4,5],[0,1,2,3,4,5,6],[],[],[9],[8,9,10],[0,1,2,3,4,5,6,7,8,9,10,11],[0,1,2,3,4,5,6,7,8,9,10,11,12]]) [jf 13 0 2,jk 14 13,jf 15 4 3,jf 16 0 15,jk 17 16,ja 18 6 14 17,jf 19 1 18,jk 20 19,jl 21 3 2,jf 22 4 3,jl 23 2 22,jc 24 86 [21,23],jq 25 (.bld [.r (.v (.string .empty)),.r (.v (.int .i64 0))] [(0,1,20),(1,1,24)]),jp (.st 2 4 25)] [4]) .ret) .skip)) (.seq (.reg (some [[],[],[0,1],[],[3],[0,1,2,3,4],[0,1,2,3,4,5]]) [jl 26 3 2,jl 27 6 3,jc 28 147 [26,27],jf 29 1 3,jk 30 29,jq 31 (.bld [.r (.v (.string .empty)),.r (.v (.int .i64 0))] [(0,1,28),(1,1,30)]),jp (.st 2 4 31)] [4]) .ret)))
def G3:List RV:=[.c 4 true 2]
def bk (g:G) (t:TE) (a0:Network) (a1:Scan):Option Spot:=
 cl (fi g t a0 (Scan.mk a1.Thing a1.At a1.Kind a1.Place (Trip.mk a1.Trip.Leg a1.Trip.Day))) fun x1=>
 br x1
 (
  br (g.eq a1.Kind 3)
  (
   gd (((0:Int)≤a1.Trip.Leg))<|
   gt a0.Legs (g.nat a1.Trip.Leg) fun x2=>
   cl (eu g t a0 (Trip.mk a1.Trip.Leg a1.Trip.Day)) fun x3=>
   some (Spot.mk x2.To x3))
  (
   cl (jr g t a0 (Scan.mk a1.Thing a1.At a1.Kind a1.Place (Trip.mk a1.Trip.Leg a1.Trip.Day))) fun x4=>
   some (Spot.mk x4 a1.At)))
 (
  some (Spot.mk ByteArray.empty 0))
theorem bQ {g:G} {t:TE} {a0:Network} {a1:Scan} {r:Spot} (hg:g=G.real) (ht:t=TE.real) (h:bk g t a0 a1=some r):Fn Tryz.prog 105 [.g (Network.rs t a0),.g (Scan.rs t a1)] (.g (Spot.ds t r)):=by
 obtain⟨X,hX⟩:=aE (.g (Spot.ds t r):X);rw[←hX];refine az (rvs:=G3) (j:=G0) Tryz.func105 rfl (by kernel_rfl) (nb rfl) (by kernel_rfl) ac ?_;intro g2 F hg2 hF;obtain rfl:g2=g:=hg2.unique.trans hg.symm;clear hg2;obtain⟨_,_,_,eq⟩:=g2;obtain⟨_⟩:=t
 obtain⟨a0_Legs,a0_Off,a0_Change⟩:=a0;obtain⟨a1_Thing,a1_At,a1_Kind,a1_Place,⟨a1_Trip_Leg,a1_Trip_Day⟩⟩:=a1;unfold bk at h;try dsimp only at h
 cbv;obtain⟨x1,hx1,h⟩:=ae h;try dsimp only at h
 refine ACall.mk _ _ rfl (hF _ _ _ (gr hg ht hx1)) (.inl rfl) (nb rfl) ?_;cbv
 cases hb1:x1
 ·rw[aa hb1] at h;cbv;obtain rfl:=Option.some.inj h;exact ARet.mk trivial hX.symm
 rw[ab hb1] at h;cbv
 cases hb2:(eq a1_Kind 3)
 ·rw[aa hb2] at h;cbv;obtain⟨x4,hx4,h⟩:=ae h;try dsimp only at h
  refine ACall.mk _ _ rfl (hF _ _ _ (vU hg ht hx4)) (.inl rfl) (nb rfl) ?_;cbv;obtain rfl:=Option.some.inj h;exact ARet.mk trivial hX.symm
 rw[ab hb2] at h;cbv;obtain⟨hc1,h⟩:=aj h;refine AStep.mk hc1 ?_;cbv;obtain⟨x2,hx2,h⟩:=aH h;obtain⟨x2_From,x2_To,x2_Start,x2_Takes,x2_Days,x2_Room⟩:=x2;try dsimp only at h
 refine AGet.mk _ (aX hg ht hx2) ?_;cbv;obtain⟨x3,hx3,h⟩:=ae h;try dsimp only at h
 refine ACall.mk _ _ rfl (hF _ _ _ (d9 hg ht hx3)) (.inl rfl) (nb rfl) ?_;cbv;obtain rfl:=Option.some.inj h;exact ARet.mk trivial hX.symm
def HL:J:=js [jq 2 (.box 0),jq 3 (.box 1),jq 4 (.alloc [.r (.v (.string .empty)),.r (.v (.int .i64 0))])] [2,3,4] (.seq (js [jl 5 3 2,jl 6 6 3,jc 7 91 [5,6],jq 8 (.not 7)] [2,3,4,8] (.cond 8 (js [jq 9 (.bld [.r (.v (.string .empty)),.r (.v (.int .i64 0))] []),jp (.st 2 4 9)] [4] .ret) .skip)) (.seq (js [jf 10 2 3,jk 11 10,jb 12 .eql .i 11 (ki 3),jm 13 12,jv 14 13 (.fa 2 3),jv 15 13 (.ld false 1 14),jv 16 13 (.bin .eql .i 15 (ki 2)),jq 17 (.pick 13 kt 16)] [2,3,4,17] (.cond 17 (.seq (.reg (some [[],[0],[],[2],[2,3],[0,1,2,3,4],[0,1,2,3,4,5],[0,1,2,3,4,5,6],[],[],[9],[8,9,10],[0,1,2,3,4,5,6,7,8,9,10,11],[0,1,2,3,4,5,6,7,8,9,10,11,12]]) [jf 18 0 2,jk 19 18,jf 20 4 3,jf 21 0 20,jk 22 21,ja 23 6 19 22,jf 24 0 23,jk 25 24,jl 26 3 2,jf 27 4 3,jl 28 2 27,jc 29 85 [26,28],jq 30 (.bld [.r (.v (.string .empty)),.r (.v (.int .i64 0))] [(0,1,25),(1,1,29)]),jp (.st 2 4 30)] [4]) .ret) .skip)) (js [jf 31 3 3,jk 32 31,jf 33 1 3,jk 34 33,jq 35 (.bld [.r (.v (.string .empty)),.r (.v (.int .i64 0))] [(0,1,32),(1,1,34)]),jp (.st 2 4 35)] [4] .ret)))
def Gm:List RV:=[.c 4 true 2]
def bj (g:G) (t:TE) (a0:Network) (a1:Scan):Option Spot:=
 cl (fi g t a0 (Scan.mk a1.Thing a1.At a1.Kind a1.Place (Trip.mk a1.Trip.Leg a1.Trip.Day))) fun x1=>
 br x1
 (
  br (g.eq a1.Kind 3)
  (
   gd (((0:Int)≤a1.Trip.Leg))<|
   gt a0.Legs (g.nat a1.Trip.Leg) fun x2=>
   cl (ci g t a0 (Trip.mk a1.Trip.Leg a1.Trip.Day)) fun x3=>
   some (Spot.mk x2.From x3))
  (
   br (g.eq a1.Kind 2)
   (
    gd (((0:Int)≤a1.Trip.Leg))<|
    gt a0.Legs (g.nat a1.Trip.Leg) fun x4=>
    cl (ci g t a0 (Trip.mk a1.Trip.Leg a1.Trip.Day)) fun x5=>
    some (Spot.mk x4.From x5))
   (
    some (Spot.mk a1.Place a1.At))))
 (
  some (Spot.mk ByteArray.empty 0))
theorem bG {g:G} {t:TE} {a0:Network} {a1:Scan} {r:Spot} (hg:g=G.real) (ht:t=TE.real) (h:bj g t a0 a1=some r):Fn Tryz.prog 106 [.g (Network.rs t a0),.g (Scan.rs t a1)] (.g (Spot.ds t r)):=by
 obtain⟨X,hX⟩:=aE (.g (Spot.ds t r):X);rw[←hX];refine az (rvs:=Gm) (j:=HL) Tryz.func106 rfl (by kernel_rfl) (nb rfl) (by kernel_rfl) ac ?_;intro g2 F hg2 hF;obtain rfl:g2=g:=hg2.unique.trans hg.symm;clear hg2;obtain⟨_,_,_,eq⟩:=g2;obtain⟨_⟩:=t
 obtain⟨a0_Legs,a0_Off,a0_Change⟩:=a0;obtain⟨a1_Thing,a1_At,a1_Kind,a1_Place,⟨a1_Trip_Leg,a1_Trip_Day⟩⟩:=a1;unfold bj at h;try dsimp only at h
 cbv;obtain⟨x1,hx1,h⟩:=ae h;try dsimp only at h
 refine ACall.mk _ _ rfl (hF _ _ _ (gr hg ht hx1)) (.inl rfl) (nb rfl) ?_;cbv
 cases hb1:x1
 ·rw[aa hb1] at h;cbv;obtain rfl:=Option.some.inj h;exact ARet.mk trivial hX.symm
 rw[ab hb1] at h;cbv
 cases hb2:(eq a1_Kind 3)
 rotate_left
 ·rw[ab hb2] at h;cbv;iterate 3 try(rw[hb2];cbv)
  obtain⟨hc1,h⟩:=aj h;refine AStep.mk hc1 ?_;cbv;obtain⟨x2,hx2,h⟩:=aH h;obtain⟨x2_From,x2_To,x2_Start,x2_Takes,x2_Days,x2_Room⟩:=x2;try dsimp only at h
  refine AGet.mk _ (aX hg ht hx2) ?_;cbv;obtain⟨x3,hx3,h⟩:=ae h;try dsimp only at h
  refine ACall.mk _ _ rfl (hF _ _ _ (cA hg ht hx3)) (.inl rfl) (nb rfl) ?_;cbv;obtain rfl:=Option.some.inj h;exact ARet.mk trivial hX.symm
 rw[aa hb2] at h;cbv;iterate 3 try(rw[hb2];cbv)
 cases hb3:(eq a1_Kind 2)
 ·rw[aa hb3] at h;cbv;obtain rfl:=Option.some.inj h;exact ARet.mk trivial hX.symm
 rw[ab hb3] at h;cbv;obtain⟨hc2,h⟩:=aj h;refine AStep.mk hc2 ?_;cbv;obtain⟨x4,hx4,h⟩:=aH h;obtain⟨x4_From,x4_To,x4_Start,x4_Takes,x4_Days,x4_Room⟩:=x4;try dsimp only at h
 refine AGet.mk _ (aX hg ht hx4) ?_;cbv;obtain⟨x5,hx5,h⟩:=ae h;try dsimp only at h
 refine ACall.mk _ _ rfl (hF _ _ _ (cA hg ht hx5)) (.inl rfl) (nb rfl) ?_;cbv;obtain rfl:=Option.some.inj h;exact ARet.mk trivial hX.symm
def ir48:J:=js [jq 3 (.box 0),jq 4 (.box 1),jq 5 (.box 2),jm 6 kf] [3,4,5] (.seq (js [jl 7 3 3,jl 8 6 4,jc 9 91 [7,8],jq 10 (.not 9),jm 11 10,jv 12 11 (.ld true 3 3),jv 13 11 (.ld true 6 5),jv 14 11 (.call 91 true [12,13]),jv 15 11 (.not 14),jq 16 (.pick 11 kt 15),jm 17 16,jv 18 17 (.fa 0 4),jv 19 17 (.ld false 1 18),jv 20 17 (.fa 0 5),jv 21 17 (.ld false 1 20),jv 22 17 (.bin .neq .i 19 21),jq 23 (.pick 17 kt 22),jm 24 23,jv 25 24 (.ld true 6 4),jv 26 24 (.ld true 6 5),jv 27 24 (.call 37 true [25,26]),jv 28 24 (.bin .geq .i 27 (ki 0)),jq 29 (.pick 24 kt 28),jm 30 29,jv 31 30 (.fa 2 4),jv 32 30 (.ld false 1 31),jv 33 30 (.bin .eql .i 32 (ki 4)),jq 34 (.pick 30 kt 33)] [3,4,5,34] (.cond 34 (js [jm 6 kf] [6] .ret) .skip)) (.seq (js [jf 35 2 5,jk 36 35,jb 37 .eql .i 36 (ki 2),jm 38 37,ju 39 38 (.fa 2 4),ju 40 38 (.ld false 1 39),ju 41 38 (.bin .eql .i 40 (ki 3)),jq 42 (.pick 38 41 kf),jm 43 42,ju 44 43 (.fa 4 4),ju 45 43 (.ld true 2 44),ju 46 43 (.fa 4 5),ju 47 43 (.ld true 2 46),ju 48 43 (.eqs false [.i,.i] 45 47),jq 49 (.pick 43 48 kf)] [3,4,5,49] (.cond 49 (js [jm 6 kt] [6] .ret) .skip)) (.seq (.reg (some [[],[],[],[1,2],[],[],[1,2,3,4,5],[0,1,2,3,4,5,6],[0,1,2,3,4,5,6,7]]) [jl 50 3 3,jl 51 3 3,jl 52 6 4,jc 53 105 [51,52],jl 54 3 3,jl 55 6 5,jc 56 106 [54,55],jc 57 104 [50,53,56],jm 6 57] [6]) .ret)))
def rv48:List RV:=[.t 6]
def gW (g:G) (t:TE) (a0:Network) (a1:Scan) (a2:Scan):Option Bool:=
 cl (fi g t a0 (Scan.mk a1.Thing a1.At a1.Kind a1.Place (Trip.mk a1.Trip.Leg a1.Trip.Day))) fun x1=>
 br x1
 (
  cl (fi g t a0 (Scan.mk a2.Thing a2.At a2.Kind a2.Place (Trip.mk a2.Trip.Leg a2.Trip.Day))) fun x2=>
  br x2
  (
   br (g.eq a1.Thing a2.Thing)
   (
    lP (bL g t (Scan.mk a1.Thing a1.At a1.Kind a1.Place (Trip.mk a1.Trip.Leg a1.Trip.Day)) (Scan.mk a2.Thing a2.At a2.Kind a2.Place (Trip.mk a2.Trip.Leg a2.Trip.Day))) fun x3=>
    br (g.le 0 x3)
    (
     some false)
    (
     br (g.eq a1.Kind 4)
     (
      some false)
     (
      br (g.eq a2.Kind 2)
      (
       br (g.eq a1.Kind 3)
       (
        br (g.all [(g.eq a1.Trip.Leg a2.Trip.Leg),(g.eq a1.Trip.Day a2.Trip.Day)])
        (
         some true)
        (
         cl (bk g t a0 (Scan.mk a1.Thing a1.At a1.Kind a1.Place (Trip.mk a1.Trip.Leg a1.Trip.Day))) fun x4=>
         cl (bj g t a0 (Scan.mk a2.Thing a2.At a2.Kind a2.Place (Trip.mk a2.Trip.Leg a2.Trip.Day))) fun x5=>
         cl (ew g t a0 x4 x5) fun x6=>
         some x6))
       (
        cl (bk g t a0 (Scan.mk a1.Thing a1.At a1.Kind a1.Place (Trip.mk a1.Trip.Leg a1.Trip.Day))) fun x7=>
        cl (bj g t a0 (Scan.mk a2.Thing a2.At a2.Kind a2.Place (Trip.mk a2.Trip.Leg a2.Trip.Day))) fun x8=>
        cl (ew g t a0 x7 x8) fun x9=>
        some x9))
      (
       cl (bk g t a0 (Scan.mk a1.Thing a1.At a1.Kind a1.Place (Trip.mk a1.Trip.Leg a1.Trip.Day))) fun x10=>
       cl (bj g t a0 (Scan.mk a2.Thing a2.At a2.Kind a2.Place (Trip.mk a2.Trip.Leg a2.Trip.Day))) fun x11=>
       cl (ew g t a0 x10 x11) fun x12=>
       some x12))))
   (
    some false))
  (
   some false))
 (
  some false)
theorem se {g:G} {t:TE} {a0:Network} {a1:Scan} {a2:Scan} {r:Bool} (hg:g=G.real) (ht:t=TE.real) (h:gW g t a0 a1 a2=some r):Fn Tryz.prog 48 [.g (Network.rs t a0),.g (Scan.rs t a1),.g (Scan.rs t a2)] (.c (.r (.v (.bool r)))):=by
 obtain⟨X,hX⟩:=aE (.c (.r (.v (.bool r))):X);rw[←hX];refine az (rvs:=rv48) (j:=ir48) Tryz.func48 rfl (by kernel_rfl) (nb rfl) (by kernel_rfl) ac ?_;intro g2 F hg2 hF;obtain rfl:g2=g:=hg2.unique.trans hg.symm;clear hg2;obtain⟨_,_,le,eq,_,_,_,_,_,_,_,_,_,_,_,_,_,_,_,_,_,_,_,_,_,_,_,_,_,_,_,_,_,all⟩:=g2;obtain⟨_⟩:=t
 obtain⟨a0_Legs,a0_Off,a0_Change⟩:=a0;obtain⟨a1_Thing,a1_At,a1_Kind,a1_Place,⟨a1_Trip_Leg,a1_Trip_Day⟩⟩:=a1;obtain⟨a2_Thing,a2_At,a2_Kind,a2_Place,⟨a2_Trip_Leg,a2_Trip_Day⟩⟩:=a2;unfold gW at h;try dsimp only at h
 cbv;obtain⟨x1,hx1,h⟩:=ae h;try dsimp only at h
 refine ACall.mk _ _ rfl (hF _ _ _ (gr hg ht hx1)) (.inl rfl) (nb rfl) ?_;cbv
 cases hb1:x1
 ·rw[aa hb1] at h;cbv;iterate 4 try(rw[hb1];cbv)
  obtain rfl:=Option.some.inj h;exact ARet.mk trivial hX.symm
 rw[ab hb1] at h;cbv;iterate 2 try(rw[hb1];cbv)
 obtain⟨x2,hx2,h⟩:=ae h;try dsimp only at h
 refine ACall.mk _ _ rfl (hF _ _ _ (gr hg ht hx2)) (.inl rfl) (nb rfl) ?_;cbv;iterate 2 try(rw[hb1];cbv)
 cases hb2:x2
 ·rw[aa hb2] at h;cbv;iterate 5 try(rw[hb2];cbv)
  obtain rfl:=Option.some.inj h;exact ARet.mk trivial hX.symm
 rw[ab hb2] at h;cbv;iterate 5 try(rw[hb2];cbv)
 cases hb3:(eq a1_Thing a2_Thing)
 ·rw[aa hb3] at h;cbv;iterate 4 try(rw[hb3];cbv)
  obtain rfl:=Option.some.inj h;exact ARet.mk trivial hX.symm
 rw[ab hb3] at h;cbv;iterate 2 try(rw[hb3];cbv)
 obtain⟨x3,hx3,h⟩:=ag h;try dsimp only at h
 refine ACall.mk _ _ rfl (hF _ _ _ (jL hg ht hx3)) (.inl rfl) (nb rfl) ?_;cbv;iterate 2 try(rw[hb3];cbv)
 cases hb4:(le 0 x3)
 rotate_left
 ·rw[ab hb4] at h;cbv;iterate 3 try(rw[hb4];cbv)
  obtain rfl:=Option.some.inj h;exact ARet.mk trivial hX.symm
 rw[aa hb4] at h;cbv;iterate 3 try(rw[hb4];cbv)
 cases hb5:(eq a1_Kind 4)
 rotate_left
 ·rw[ab hb5] at h;cbv;obtain rfl:=Option.some.inj h;exact ARet.mk trivial hX.symm
 rw[aa hb5] at h;cbv
 cases hb6:(eq a2_Kind 2)
 ·rw[aa hb6] at h;cbv;iterate 3 try(rw[hb6];cbv)
  obtain⟨x10,hx10,h⟩:=ae h;obtain⟨x10_Place,x10_At⟩:=x10;try dsimp only at h
  refine ACall.mk _ _ rfl (hF _ _ _ (bQ hg ht hx10)) (.inl rfl) (nb rfl) ?_;cbv;obtain⟨x11,hx11,h⟩:=ae h;obtain⟨x11_Place,x11_At⟩:=x11;try dsimp only at h
  refine ACall.mk _ _ rfl (hF _ _ _ (bG hg ht hx11)) (.inl rfl) (nb rfl) ?_;cbv;obtain⟨x12,hx12,h⟩:=ae h;try dsimp only at h
  refine ACall.mk _ _ rfl (hF _ _ _ (jo hg ht hx12)) (.inl rfl) (nb rfl) ?_;cbv;obtain rfl:=Option.some.inj h;exact ARet.mk trivial hX.symm
 rw[ab hb6] at h;cbv;iterate 3 try(rw[hb6];cbv)
 cases hb7:(eq a1_Kind 3)
 ·rw[aa hb7] at h;cbv;iterate 5 try(rw[hb7];cbv)
  obtain⟨x7,hx7,h⟩:=ae h;obtain⟨x7_Place,x7_At⟩:=x7;try dsimp only at h
  refine ACall.mk _ _ rfl (hF _ _ _ (bQ hg ht hx7)) (.inl rfl) (nb rfl) ?_;cbv;obtain⟨x8,hx8,h⟩:=ae h;obtain⟨x8_Place,x8_At⟩:=x8;try dsimp only at h
  refine ACall.mk _ _ rfl (hF _ _ _ (bG hg ht hx8)) (.inl rfl) (nb rfl) ?_;cbv;obtain⟨x9,hx9,h⟩:=ae h;try dsimp only at h
  refine ACall.mk _ _ rfl (hF _ _ _ (jo hg ht hx9)) (.inl rfl) (nb rfl) ?_;cbv;obtain rfl:=Option.some.inj h;exact ARet.mk trivial hX.symm
 rw[ab hb7] at h;cbv;iterate 5 try(rw[hb7];cbv)
 cases hb8:(all [(eq a1_Trip_Leg a2_Trip_Leg),(eq a1_Trip_Day a2_Trip_Day)])
 rotate_left
 ·rw[ab hb8] at h;cbv;obtain rfl:=Option.some.inj h;exact ARet.mk trivial hX.symm
 rw[aa hb8] at h;cbv;obtain⟨x4,hx4,h⟩:=ae h;obtain⟨x4_Place,x4_At⟩:=x4;try dsimp only at h
 refine ACall.mk _ _ rfl (hF _ _ _ (bQ hg ht hx4)) (.inl rfl) (nb rfl) ?_;cbv;obtain⟨x5,hx5,h⟩:=ae h;obtain⟨x5_Place,x5_At⟩:=x5;try dsimp only at h
 refine ACall.mk _ _ rfl (hF _ _ _ (bG hg ht hx5)) (.inl rfl) (nb rfl) ?_;cbv;obtain⟨x6,hx6,h⟩:=ae h;try dsimp only at h
 refine ACall.mk _ _ rfl (hF _ _ _ (jo hg ht hx6)) (.inl rfl) (nb rfl) ?_;cbv;obtain rfl:=Option.some.inj h;exact ARet.mk trivial hX.symm
def ir21:J:=js [jq 3 (.box 0),jq 6 (.mv (.k (.c (.n 6))))] [1,2,3] (js [jq 10 (.bsl 6 []),jm 7 10] [1,2,3,7] (.seq (js [jl 11 3 3,jm 12 1,jm 13 2,jc 14 18 [11,12,13],jq 15 (.len false 14),jm 16 (ki 0)] [3,7,14,15,16] (.bl 0 (js [jb 17 .lss .i 16 15] [3,7,14,15,16,17] (.seq (.cond 17 .skip (.exit 0)) (.seq (.block 1 (js [ja 18 6 14 16,jl 19 6 18,jq 9 (.alloc [.r (.v (.int .i64 0)),.r (.v (.int .i64 0)),.r (.v (.int .i64 0)),.r (.v (.string .empty)),.r (.v (.int .i64 0)),.r (.v (.int .i64 0))]),jp (.st 6 9 19)] [3,7,9,14,15,16] (.seq (.reg (some [[],[0],[0,1],[0,1,2],[0,1,2,3],[0,1,2,3],[0,1,2,3],[0,1,2,3,6],[0,1,2,3,6,7],[0,1,2,3,5,6,7,8],[0,1,2,3,5,6,7,8,9],[0,1,2,3],[0,1,2,3,4,5,6,7,8,9,10,11],[0,1,2,3,4,5,6,7,8,9,10,11,12]]) [jm 20 7,jq 21 (.len false 20),jb 22 .eql .i 21 (ki 0),jm 23 22,jv 24 23 (.ld true 3 3),jv 25 23 (.mv 7),jv 26 23 (.mv 7),jv 27 23 (.len false 26),jv 28 23 (.bin .sub .i 27 (ki 1)),jv 29 23 (.ia 6 25 28),jv 30 23 (.ld true 6 29),jv 31 23 (.ld true 6 9),jv 32 23 (.call 48 true [24,30,31]),jq 33 (.pick 23 kt 32)] [3,7,9,14,15,16,33]) (.cond 33 (.reg none [jm 34 7,jl 35 6 9,jq 36 (.bsl 6 [35]),jq 37 (.app 6 56 true 34 36),jm 7 37] [3,7,14,15,16]) .skip)))) (.reg none [jb 38 .add .i 16 (ki 1),jm 16 38] [3,7,14,15,16])))))) (js [jm 39 7,jm 6 39] [6] .ret)))
def rv21:List RV:=[.t 6]
def bZ (g:G) (t:TE) (a0:Network) (x1:List Scan):Nat→Int→List Scan→Option (List Scan)
 |0,v1,w1=>
  some w1
 |n1+1,v1,w1=>
  gt x1 (g.nat v1) fun x2=>
  br (g.eq (g.int (g.dlen (t.d_Scan w1))) 0)
  (
   lP ([(Scan.mk x2.Thing x2.At x2.Kind x2.Place (Trip.mk x2.Trip.Leg x2.Trip.Day))]) fun(l2:List Scan)=>
   gd (((w1.length+l2.length)*56≤70368744177664))<|
   lP (w1++l2) fun(l3:List Scan)=>
   bZ g t a0 x1 n1 (g.wrap .i64 (g.add v1 1)) l3)
  (
   gd (((0:Int)≤(g.wrap .i64 (g.sub (g.int (g.dlen (t.d_Scan w1))) 1))∧(g.wrap .i64 (g.sub (g.int (g.dlen (t.d_Scan w1))) 1))<(((g.dlen (t.d_Scan w1)):Nat):Int)))<|
   gt w1 (g.nat (g.wrap .i64 (g.sub (g.int (g.dlen (t.d_Scan w1))) 1))) fun x3=>
   cl (gW g t a0 (Scan.mk x3.Thing x3.At x3.Kind x3.Place (Trip.mk x3.Trip.Leg x3.Trip.Day)) (Scan.mk x2.Thing x2.At x2.Kind x2.Place (Trip.mk x2.Trip.Leg x2.Trip.Day))) fun x4=>
   br x4
   (
    lP ([(Scan.mk x2.Thing x2.At x2.Kind x2.Place (Trip.mk x2.Trip.Leg x2.Trip.Day))]) fun(l4:List Scan)=>
    gd (((w1.length+l4.length)*56≤70368744177664))<|
    lP (w1++l4) fun(l5:List Scan)=>
    bZ g t a0 x1 n1 (g.wrap .i64 (g.add v1 1)) l5)
   (
    bZ g t a0 x1 n1 (g.wrap .i64 (g.add v1 1)) w1))
def it (g:G) (t:TE) (a0:Network) (a1:List Scan) (a2:Int):Option (List Scan):=
 lP ([]) fun(l1:List Scan)=>
 cl (jA g t a0 a1 a2) fun x1=>
 gd (((g.int (g.dlen (t.d_Scan x1)))≤9223372036854775807))<|
 cl (bZ g t a0 x1 (aA 0 (g.int (g.dlen (t.d_Scan x1)))) 0 l1) fun y1=>
 some y1
theorem pf {g:G} {t:TE} {a0:Network} {a1:List Scan} {a2:Int} {r:List Scan} (hg:g=G.real) (ht:t=TE.real) (h:it g t a0 a1 a2=some r):Fn Tryz.prog 21 [.g (Network.rs t a0),.c (.s 6 (t.r_Scan a1)),.c (.v (.int .i64 a2))] (.c (.o 6 (t.d_Scan r))):=by
 obtain⟨X,hX⟩:=aE (.c (.o 6 (t.d_Scan r)):X);rw[←hX];refine az (rvs:=rv21) (j:=ir21) Tryz.func21 rfl (by kernel_rfl) (nb rfl) (by kernel_rfl) ac ?_;intro g2 F hg2 hF;obtain rfl:g2=g:=hg2.unique.trans hg.symm;clear hg2;obtain⟨wrap,lt,_,eq,_,_,_,_,_,_,_,_,int,add,_,_,_,_,_,_,_,_,_,_,dlen⟩:=g2;obtain⟨_,_,_,d_Scan,r_Leg,_,r_I64⟩:=t
 obtain⟨a0_Legs,a0_Off,a0_Change⟩:=a0;unfold it at h;try dsimp only at h
 cbv;obtain⟨l1,hl1,h⟩:=ag h;try dsimp only at h
 refine ANew.mk (d_Scan l1) (dlen (d_Scan l1)) (by rw[←hl1];exact cD hg ht []) (by rw[←hl1];exact bS hg ht []) ?_;cbv;obtain⟨x1,hx1,h⟩:=ae h;try dsimp only at h
 refine ACall.mk _ _ rfl (hF _ _ _ (wx hg ht hx1)) (.inl rfl) (nb rfl) ?_;cbv;obtain⟨hB1,h⟩:=aj h;obtain⟨o1,ho1,h⟩:=ae h;try dsimp only at h
 try rw[hg] at ho1
 try rw[ht] at ho1
 refine ABL.mk {p:Nat×Int×List Scan//p.1=aA p.2.1 (int (dlen (d_Scan x1)))∧0≤p.2.1∧bZ G.real TE.real (Network.mk a0_Legs a0_Off a0_Change) x1 p.1 p.2.1 p.2.2=some o1} (fun⟨⟨n1,v1,w1⟩,_⟩=>({sl:=[(3,.c (.p 0 3 0 0)),(7,.c (.f 1 6 0 (dlen (d_Scan w1)))),(14,.c (.f 2 6 0 (dlen (d_Scan x1)))),(15,.c (.r (.v (.int .i64 (int (dlen (d_Scan x1))))))),(16,.c (.r (.v (.int .i64 v1))))],tab:=[(0,some (.foc 3 [] [.r (.s 6 (r_Leg a0_Legs)),.r (.s 1 (r_I64 a0_Off)),.r (.v (.int .i64 a0_Change))] [])),(1,some (.arr 6 (d_Scan w1))),(2,some (.arr 6 (d_Scan x1)))]}:St)) 3 (fun p=>p.1.1) ⟨(aA 0 (int (dlen (d_Scan x1))),0,l1),rfl,Int.le_refl _,ho1⟩ (List Scan) (fun y1=>({sl:=[(7,.c (.f 0 6 0 (dlen (d_Scan y1))))],tab:=[(0,some (.arr 6 (d_Scan y1)))]}:St)) 1 (fun y=>o1=y) ?_ ?_ ?_
 ·refine Wk.of [(0,some 0),(1,some 32),(2,some 112)] rfl rfl ?_ ?_
  ·cbv;all_goals exact⟨⟨_,rfl,rfl⟩,⟨_,rfl,rfl⟩,⟨_,rfl,rfl⟩,⟨_,rfl,rfl⟩,⟨_,rfl,rfl⟩,trivial⟩
  cbv;all_goals exact⟨⟨_,rfl,_,rfl,rfl,rfl,rfl,trivial⟩,⟨_,rfl,rfl⟩,⟨_,rfl,rfl⟩,trivial⟩
 ·rintro⟨⟨n1,v1,w1⟩,hn1,hi1,h_1⟩ hq1;try dsimp only at hn1 hi1 h_1
  clear hq1;cbv;rcases n1 with _|n1
  ·have hb1:lt v1 (int (dlen (d_Scan x1)))=false:=cu hg hn1;rw[bZ] at h_1;try rw[←hg] at h_1
   try rw[←ht] at h_1
   try dsimp only at h_1
   rw[hb1];cbv;refine⟨w1,Wk.of [(0,some 1)] rfl rfl ?_ ?_,(Option.some.inj h_1).symm⟩
   ·cbv;all_goals exact⟨⟨_,rfl,rfl⟩,trivial⟩
   cbv;all_goals exact⟨⟨_,rfl,rfl⟩,trivial⟩
  have hb1:lt v1 (int (dlen (d_Scan x1)))=true:=dj hg hn1;have hl1:=gk hn1;have hs1:=ef hg hn1 hi1 hB1 (by decide);rw[bZ] at h_1;try rw[←hg] at h_1
  try rw[←ht] at h_1
  try dsimp only at h_1
  rw[hb1];cbv;refine AStep.mk (mL hg hi1 hl1) ?_;cbv;obtain⟨x2,hx2,h_1⟩:=aH h_1;obtain⟨x2_Thing,x2_At,x2_Kind,x2_Place,⟨x2_Trip_Leg,x2_Trip_Day⟩⟩:=x2;try dsimp only at h_1
  refine AGet.mk _ (eC hg ht hx2) ?_;cbv
  cases hb2:(eq (int (dlen (d_Scan w1))) 0)
  rotate_left
  ·rw[ab hb2] at h_1;cbv;iterate 9 try(rw[hb2];cbv)
   obtain⟨l2,hl2,h_1⟩:=ag h_1;try dsimp only at h_1
   refine ANew.mk (d_Scan l2) (dlen (d_Scan l2)) (by rw[←hl2];exact cD hg ht [(Scan.mk x2_Thing x2_At x2_Kind x2_Place (Trip.mk x2_Trip_Leg x2_Trip_Day))]) (by rw[←hl2];exact bS hg ht [(Scan.mk x2_Thing x2_At x2_Kind x2_Place (Trip.mk x2_Trip_Leg x2_Trip_Day))]) ?_;cbv;obtain⟨hc1,h_1⟩:=aj h_1;refine AStep.mk ⟨⟨rfl,(ao hg ht _)⟩,(cO hg ht (ao hg ht _) rfl hc1)⟩ ?_;cbv;obtain⟨l3,hl3,h_1⟩:=ag h_1;try dsimp only at h_1
   refine ANew.mk (d_Scan l3) (dlen (d_Scan l3)) (by rw[←hl3];exact fm hg ht (ao hg ht _) rfl) (by rw[←hl3];exact ee hg ht (ao hg ht _) rfl) ?_;cbv;try rw[hg] at h_1
   try rw[ht] at h_1
   refine⟨⟨(n1,(wrap .i64 (add v1 1)),l3),hs1.1,hs1.2,h_1⟩,Wk.of [(0,some 0),(1,some 355),(2,some 2)] rfl rfl ?_ ?_,Nat.lt_succ_self _⟩
   ·cbv;all_goals exact⟨⟨_,rfl,rfl⟩,⟨_,rfl,rfl⟩,⟨_,rfl,rfl⟩,⟨_,rfl,rfl⟩,⟨_,rfl,rfl⟩,trivial⟩
   cbv;all_goals exact⟨⟨_,rfl,_,rfl,rfl,rfl,rfl,trivial⟩,⟨_,rfl,rfl⟩,⟨_,rfl,rfl⟩,trivial⟩
  rw[aa hb2] at h_1;cbv;iterate 5 try(rw[hb2];cbv)
  obtain⟨hc2,h_1⟩:=aj h_1;refine AStep.mk hc2 ?_;cbv;try(rw[hb2];cbv)
  obtain⟨x3,hx3,h_1⟩:=aH h_1;obtain⟨x3_Thing,x3_At,x3_Kind,x3_Place,⟨x3_Trip_Leg,x3_Trip_Day⟩⟩:=x3;try dsimp only at h_1
  refine AGet.mk _ (eC hg ht hx3) ?_;cbv;iterate 2 try(rw[hb2];cbv)
  obtain⟨x4,hx4,h_1⟩:=ae h_1;try dsimp only at h_1
  refine ACall.mk _ _ rfl (hF _ _ _ (se hg ht hx4)) (.inl rfl) (nb rfl) ?_;cbv;try(rw[hb2];cbv)
  cases hb3:x4
  ·rw[aa hb3] at h_1;cbv;try rw[hg] at h_1
   try rw[ht] at h_1
   refine⟨⟨(n1,(wrap .i64 (add v1 1)),w1),hs1.1,hs1.2,h_1⟩,Wk.of [(0,some 0),(1,some 1),(2,some 2)] rfl rfl ?_ ?_,Nat.lt_succ_self _⟩
   ·cbv;all_goals exact⟨⟨_,rfl,rfl⟩,⟨_,rfl,rfl⟩,⟨_,rfl,rfl⟩,⟨_,rfl,rfl⟩,⟨_,rfl,rfl⟩,trivial⟩
   cbv;all_goals exact⟨⟨_,rfl,_,rfl,rfl,rfl,rfl,trivial⟩,⟨_,rfl,rfl⟩,⟨_,rfl,rfl⟩,trivial⟩
  rw[ab hb3] at h_1;cbv;obtain⟨l4,hl4,h_1⟩:=ag h_1;try dsimp only at h_1
  refine ANew.mk (d_Scan l4) (dlen (d_Scan l4)) (by rw[←hl4];exact cD hg ht [(Scan.mk x2_Thing x2_At x2_Kind x2_Place (Trip.mk x2_Trip_Leg x2_Trip_Day))]) (by rw[←hl4];exact bS hg ht [(Scan.mk x2_Thing x2_At x2_Kind x2_Place (Trip.mk x2_Trip_Leg x2_Trip_Day))]) ?_;cbv;obtain⟨hc3,h_1⟩:=aj h_1;refine AStep.mk ⟨⟨rfl,(ao hg ht _)⟩,(cO hg ht (ao hg ht _) rfl hc3)⟩ ?_;cbv;obtain⟨l5,hl5,h_1⟩:=ag h_1;try dsimp only at h_1
  refine ANew.mk (d_Scan l5) (dlen (d_Scan l5)) (by rw[←hl5];exact fm hg ht (ao hg ht _) rfl) (by rw[←hl5];exact ee hg ht (ao hg ht _) rfl) ?_;cbv;try rw[hg] at h_1
  try rw[ht] at h_1
  refine⟨⟨(n1,(wrap .i64 (add v1 1)),l5),hs1.1,hs1.2,h_1⟩,Wk.of [(0,some 0),(1,some 355),(2,some 2)] rfl rfl ?_ ?_,Nat.lt_succ_self _⟩
  ·cbv;all_goals exact⟨⟨_,rfl,rfl⟩,⟨_,rfl,rfl⟩,⟨_,rfl,rfl⟩,⟨_,rfl,rfl⟩,⟨_,rfl,rfl⟩,trivial⟩
  cbv;all_goals exact⟨⟨_,rfl,_,rfl,rfl,rfl,rfl,trivial⟩,⟨_,rfl,rfl⟩,⟨_,rfl,rfl⟩,trivial⟩
 rintro y1 hy1;replace hy1:=hy1.symm;subst hy1;try dsimp only[lr,lrL,lrp,aW] at h
 cbv;obtain rfl:=Option.some.inj h;exact ARet.mk ⟨rfl,(ao hg ht _)⟩ hX.symm
def ir50:J:=js [jq 4 (.box 0),jq 8 (.alloc [.r (.v (.int .i64 0)),.r (.v (.int .i64 0)),.r (.v (.int .i64 0)),.r (.v (.string .empty)),.r (.v (.int .i64 0)),.r (.v (.int .i64 0))]),jm 9 kf] [1,2,3,4,8] (js [jl 12 3 4,jm 13 1,jm 14 2,jc 15 21 [12,13,14],jm 10 15] [3,8,10] (.seq (js [jm 16 10,jq 17 (.len false 16),jb 18 .sub .i 17 (ki 1),jm 11 18] [3,8,10,11] (.bl 0 (.seq (js [jm 19 11,jb 20 .geq .i 19 (ki 0)] [3,8,10,11,20] (.cond 20 .skip (.exit 0))) (.seq (.block 1 (js [jm 23 10,jm 24 11,ja 25 6 23 24,jf 26 1 25,jk 27 26,jm 28 3,jb 29 .leq .i 27 28] [3,8,10,11,29] (.cond 29 (js [jm 30 10,jm 31 11,ja 32 6 30 31,jl 33 6 32,jp (.st 6 8 33),jm 9 kt] [8,9] .ret) .skip))) (.reg none [jm 21 11,jb 22 .sub .i 21 (ki 1),jm 11 22] [3,8,10,11]))))) (js [jq 34 (.bld [.r (.v (.int .i64 0)),.r (.v (.int .i64 0)),.r (.v (.int .i64 0)),.r (.v (.string .empty)),.r (.v (.int .i64 0)),.r (.v (.int .i64 0))] []),jp (.st 6 8 34),jm 9 kf] [8,9] .ret)))
def rv50:List RV:=[.c 8 true 6,.t 9]
def cK (g:G) (t:TE) (a3:Int) (x1:List Scan):Nat→Int→Option (LR (Scan×Bool) Unit)
 |0,_=>none
 |n1+1,v1=>
  br (g.le 0 v1)
  (
   gd (((0:Int)≤v1∧v1<(((g.dlen (t.d_Scan x1)):Nat):Int)))<|
   gt x1 (g.nat v1) fun x2=>
   br (g.le x2.At a3)
   (
    gd (((0:Int)≤v1∧v1<(((g.dlen (t.d_Scan x1)):Nat):Int)))<|
    some (LR.ret (((Scan.mk x2.Thing x2.At x2.Kind x2.Place (Trip.mk x2.Trip.Leg x2.Trip.Day)),true))))
   (
    cK g t a3 x1 n1 (g.wrap .i64 (g.sub v1 1))))
  (
   some (LR.out ()))
def iD (g:G) (t:TE) (a0:Network) (a1:List Scan) (a2:Int) (a3:Int):Option (Scan×Bool):=
 cl (it g t a0 a1 a2) fun x1=>
 cl (cK g t a3 x1 1000000000 (g.wrap .i64 (g.sub (g.int (g.dlen (t.d_Scan x1))) 1))) fun o1=>lr o1 fun y1=>
 some (((Scan.mk 0 0 0 ByteArray.empty (Trip.mk 0 0)),false))
theorem tR {g:G} {t:TE} {a0:Network} {a1:List Scan} {a2:Int} {a3:Int} {r:Scan×Bool} (hg:g=G.real) (ht:t=TE.real) (h:iD g t a0 a1 a2 a3=some r):Fn Tryz.prog 50 [.g (Network.rs t a0),.c (.s 6 (t.r_Scan a1)),.c (.v (.int .i64 a2)),.c (.v (.int .i64 a3))] (.u [.g (Scan.ds t r.1),.c (.r (.v (.bool r.2)))]):=by
 obtain⟨X,hX⟩:=aE (.u [.g (Scan.ds t r.1),.c (.r (.v (.bool r.2)))]:X);rw[←hX];refine az (rvs:=rv50) (j:=ir50) Tryz.func50 rfl (by kernel_rfl) (nb rfl) (by kernel_rfl) ac ?_;intro g2 F hg2 hF;obtain rfl:g2=g:=hg2.unique.trans hg.symm;clear hg2;obtain⟨wrap,_,le,_,_,_,_,_,_,_,_,_,int,_,sub,_,_,_,_,_,_,_,_,_,dlen⟩:=g2;obtain⟨_,_,_,d_Scan⟩:=t
 obtain⟨a0_Legs,a0_Off,a0_Change⟩:=a0;unfold iD at h;try dsimp only at h
 cbv;obtain⟨x1,hx1,h⟩:=ae h;try dsimp only at h
 refine ACall.mk _ _ rfl (hF _ _ _ (pf hg ht hx1)) (.inl rfl) (nb rfl) ?_;cbv;obtain⟨o1,ho1,h⟩:=ae h;try dsimp only at h
 try rw[hg] at ho1
 try rw[ht] at ho1
 refine ABL.mk {p:Nat×Int//cK G.real TE.real a3 x1 p.1 p.2=some o1} (fun⟨⟨n1,v1⟩,_⟩=>({sl:=[(3,.c (.r (.v (.int .i64 a3)))),(8,.c (.p 0 6 0 0)),(10,.c (.f 1 6 0 (dlen (d_Scan x1)))),(11,.c (.r (.v (.int .i64 v1))))],tab:=[(0,some (.foc 6 [] [.r (.v (.int .i64 0)),.r (.v (.int .i64 0)),.r (.v (.int .i64 0)),.r (.v (.string ByteArray.empty)),.r (.v (.int .i64 0)),.r (.v (.int .i64 0))] [])),(1,some (.arr 6 (d_Scan x1)))]}:St)) 2 (fun p=>p.1.1) ⟨(1000000000,(wrap .i64 (sub (int (dlen (d_Scan x1))) 1))),ho1⟩ (Unit) (fun _=>({sl:=[(8,.c (.p 0 6 0 0))],tab:=[(0,some (.foc 6 [] [.r (.v (.int .i64 0)),.r (.v (.int .i64 0)),.r (.v (.int .i64 0)),.r (.v (.string ByteArray.empty)),.r (.v (.int .i64 0)),.r (.v (.int .i64 0))] []))]}:St)) 1 (fun y=>o1=LR.out y) ?_ ?_ ?_
 ·refine Wk.of [(0,some 16),(1,some 96)] rfl rfl ?_ ?_
  ·cbv;all_goals exact⟨⟨_,rfl,rfl⟩,⟨_,rfl,rfl⟩,⟨_,rfl,rfl⟩,⟨_,rfl,rfl⟩,trivial⟩
  cbv;all_goals exact⟨⟨_,rfl,_,rfl,rfl,rfl,rfl,rfl,rfl,rfl,trivial⟩,⟨_,rfl,rfl⟩,trivial⟩
 ·rintro⟨⟨n1,v1⟩,h_1⟩ hq1;try dsimp only at h_1
  clear hq1;rcases n1 with _|n1
  ·rw[cK] at h_1;cases h_1
  rw[cK] at h_1;try rw[←hg] at h_1
  try rw[←ht] at h_1
  try dsimp only at h_1
  cbv
  cases hb1:(le 0 v1)
  ·rw[aa hb1] at h_1;cbv;refine⟨(),Wk.of [(0,some 0)] rfl rfl ?_ ?_,(Option.some.inj h_1).symm⟩
   ·cbv;all_goals exact⟨⟨_,rfl,rfl⟩,trivial⟩
   cbv;all_goals exact⟨⟨_,rfl,_,rfl,rfl,rfl,rfl,rfl,rfl,rfl,trivial⟩,trivial⟩
  rw[ab hb1] at h_1;cbv;obtain⟨hc1,h_1⟩:=aj h_1;refine AStep.mk hc1 ?_;cbv;obtain⟨x2,hx2,h_1⟩:=aH h_1;obtain⟨x2_Thing,x2_At,x2_Kind,x2_Place,⟨x2_Trip_Leg,x2_Trip_Day⟩⟩:=x2;try dsimp only at h_1
  refine AGet.mk _ (eC hg ht hx2) ?_;cbv
  cases hb2:(le x2_At a3)
  rotate_left
  ·rw[ab hb2] at h_1;cbv;obtain⟨hc2,h_1⟩:=aj h_1;refine AStep.mk hc2 ?_;cbv;refine AGet.mk _ (eC hg ht hx2) ?_;cbv;obtain rfl:=Option.some.inj h_1;try dsimp only[lr,lrL,lrp,aW] at h
   obtain rfl:=Option.some.inj h;exact ARet.mk trivial hX.symm
  rw[aa hb2] at h_1;cbv;try rw[hg] at h_1
  try rw[ht] at h_1
  refine⟨⟨(n1,(wrap .i64 (sub v1 1))),h_1⟩,Wk.of [(0,some 0),(1,some 1)] rfl rfl ?_ ?_,Nat.lt_succ_self _⟩
  ·cbv;all_goals exact⟨⟨_,rfl,rfl⟩,⟨_,rfl,rfl⟩,⟨_,rfl,rfl⟩,⟨_,rfl,rfl⟩,trivial⟩
  cbv;all_goals exact⟨⟨_,rfl,_,rfl,rfl,rfl,rfl,rfl,rfl,rfl,trivial⟩,⟨_,rfl,rfl⟩,trivial⟩
 rintro _ hy1;replace hy1:=hy1.symm;subst hy1;try dsimp only[lr,lrL,lrp,aW] at h
 cbv;obtain rfl:=Option.some.inj h;exact ARet.mk trivial hX.symm
def ir52:J:=js [jq 4 (.box 0),jq 8 (.alloc [.r (.v (.int .i64 0)),.r (.v (.int .i64 0)),.r (.v (.int .i64 0)),.r (.v (.string .empty)),.r (.v (.int .i64 0)),.r (.v (.int .i64 0))]),jm 9 kf] [1,2,3,4,8] (.seq (js [jl 12 3 4,jm 13 1,jm 14 2,jc 15 21 [12,13,14],jq 16 (.len false 15),jm 17 (ki 0)] [3,8,15,16,17] (.bl 0 (js [jb 18 .lss .i 17 16] [3,8,15,16,17,18] (.seq (.cond 18 .skip (.exit 0)) (.seq (.block 1 (js [ja 19 6 15 17,jl 20 6 19,jq 11 (.alloc [.r (.v (.int .i64 0)),.r (.v (.int .i64 0)),.r (.v (.int .i64 0)),.r (.v (.string .empty)),.r (.v (.int .i64 0)),.r (.v (.int .i64 0))]),jp (.st 6 11 20)] [3,8,11,15,16,17] (js [jf 21 1 11,jk 22 21,jm 23 3,jb 24 .gtr .i 22 23] [3,8,11,15,16,17,24] (.cond 24 (js [jl 25 6 11,jp (.st 6 8 25),jm 9 kt] [8,9] .ret) .skip)))) (.reg none [jb 26 .add .i 17 (ki 1),jm 17 26] [3,8,15,16,17])))))) (js [jq 27 (.bld [.r (.v (.int .i64 0)),.r (.v (.int .i64 0)),.r (.v (.int .i64 0)),.r (.v (.string .empty)),.r (.v (.int .i64 0)),.r (.v (.int .i64 0))] []),jp (.st 6 8 27),jm 9 kf] [8,9] .ret))
def rv52:List RV:=[.c 8 true 6,.t 9]
def cR (g:G) (t:TE) (a3:Int) (x1:List Scan):Nat→Int→Option (LR (Scan×Bool) Unit)
 |0,v1=>
  some (LR.out ())
 |n1+1,v1=>
  gt x1 (g.nat v1) fun x2=>
  br (g.lt a3 x2.At)
  (
   some (LR.ret (((Scan.mk x2.Thing x2.At x2.Kind x2.Place (Trip.mk x2.Trip.Leg x2.Trip.Day)),true))))
  (
   cR g t a3 x1 n1 (g.wrap .i64 (g.add v1 1)))
def iM (g:G) (t:TE) (a0:Network) (a1:List Scan) (a2:Int) (a3:Int):Option (Scan×Bool):=
 cl (it g t a0 a1 a2) fun x1=>
 gd (((g.int (g.dlen (t.d_Scan x1)))≤9223372036854775807))<|
 cl (cR g t a3 x1 (aA 0 (g.int (g.dlen (t.d_Scan x1)))) 0) fun o1=>lr o1 fun y1=>
 some (((Scan.mk 0 0 0 ByteArray.empty (Trip.mk 0 0)),false))
theorem uA {g:G} {t:TE} {a0:Network} {a1:List Scan} {a2:Int} {a3:Int} {r:Scan×Bool} (hg:g=G.real) (ht:t=TE.real) (h:iM g t a0 a1 a2 a3=some r):Fn Tryz.prog 52 [.g (Network.rs t a0),.c (.s 6 (t.r_Scan a1)),.c (.v (.int .i64 a2)),.c (.v (.int .i64 a3))] (.u [.g (Scan.ds t r.1),.c (.r (.v (.bool r.2)))]):=by
 obtain⟨X,hX⟩:=aE (.u [.g (Scan.ds t r.1),.c (.r (.v (.bool r.2)))]:X);rw[←hX];refine az (rvs:=rv52) (j:=ir52) Tryz.func52 rfl (by kernel_rfl) (nb rfl) (by kernel_rfl) ac ?_;intro g2 F hg2 hF;obtain rfl:g2=g:=hg2.unique.trans hg.symm;clear hg2;obtain⟨wrap,lt,_,_,_,_,_,_,_,_,_,_,int,add,_,_,_,_,_,_,_,_,_,_,dlen⟩:=g2;obtain⟨_,_,_,d_Scan⟩:=t
 obtain⟨a0_Legs,a0_Off,a0_Change⟩:=a0;unfold iM at h;try dsimp only at h
 cbv;obtain⟨x1,hx1,h⟩:=ae h;try dsimp only at h
 refine ACall.mk _ _ rfl (hF _ _ _ (pf hg ht hx1)) (.inl rfl) (nb rfl) ?_;cbv;obtain⟨hB1,h⟩:=aj h;obtain⟨o1,ho1,h⟩:=ae h;try dsimp only at h
 try rw[hg] at ho1
 try rw[ht] at ho1
 refine ABL.mk {p:Nat×Int//p.1=aA p.2 (int (dlen (d_Scan x1)))∧0≤p.2∧cR G.real TE.real a3 x1 p.1 p.2=some o1} (fun⟨⟨n1,v1⟩,_⟩=>({sl:=[(3,.c (.r (.v (.int .i64 a3)))),(8,.c (.p 0 6 0 0)),(15,.c (.f 1 6 0 (dlen (d_Scan x1)))),(16,.c (.r (.v (.int .i64 (int (dlen (d_Scan x1))))))),(17,.c (.r (.v (.int .i64 v1))))],tab:=[(0,some (.foc 6 [] [.r (.v (.int .i64 0)),.r (.v (.int .i64 0)),.r (.v (.int .i64 0)),.r (.v (.string ByteArray.empty)),.r (.v (.int .i64 0)),.r (.v (.int .i64 0))] [])),(1,some (.arr 6 (d_Scan x1)))]}:St)) 2 (fun p=>p.1.1) ⟨(aA 0 (int (dlen (d_Scan x1))),0),rfl,Int.le_refl _,ho1⟩ (Unit) (fun _=>({sl:=[(8,.c (.p 0 6 0 0))],tab:=[(0,some (.foc 6 [] [.r (.v (.int .i64 0)),.r (.v (.int .i64 0)),.r (.v (.int .i64 0)),.r (.v (.string ByteArray.empty)),.r (.v (.int .i64 0)),.r (.v (.int .i64 0))] []))]}:St)) 1 (fun y=>o1=LR.out y) ?_ ?_ ?_
 ·refine Wk.of [(0,some 16),(1,some 96)] rfl rfl ?_ ?_
  ·cbv;all_goals exact⟨⟨_,rfl,rfl⟩,⟨_,rfl,rfl⟩,⟨_,rfl,rfl⟩,⟨_,rfl,rfl⟩,⟨_,rfl,rfl⟩,trivial⟩
  cbv;all_goals exact⟨⟨_,rfl,_,rfl,rfl,rfl,rfl,rfl,rfl,rfl,trivial⟩,⟨_,rfl,rfl⟩,trivial⟩
 ·rintro⟨⟨n1,v1⟩,hn1,hi1,h_1⟩ hq1;try dsimp only at hn1 hi1 h_1
  clear hq1;cbv;rcases n1 with _|n1
  ·have hb1:lt v1 (int (dlen (d_Scan x1)))=false:=cu hg hn1;rw[cR] at h_1;try rw[←hg] at h_1
   try rw[←ht] at h_1
   try dsimp only at h_1
   rw[hb1];cbv;refine⟨(),Wk.of [(0,some 0)] rfl rfl ?_ ?_,(Option.some.inj h_1).symm⟩
   ·cbv;all_goals exact⟨⟨_,rfl,rfl⟩,trivial⟩
   cbv;all_goals exact⟨⟨_,rfl,_,rfl,rfl,rfl,rfl,rfl,rfl,rfl,trivial⟩,trivial⟩
  have hb1:lt v1 (int (dlen (d_Scan x1)))=true:=dj hg hn1;have hl1:=gk hn1;have hs1:=ef hg hn1 hi1 hB1 (by decide);rw[cR] at h_1;try rw[←hg] at h_1
  try rw[←ht] at h_1
  try dsimp only at h_1
  rw[hb1];cbv;refine AStep.mk (mL hg hi1 hl1) ?_;cbv;obtain⟨x2,hx2,h_1⟩:=aH h_1;obtain⟨x2_Thing,x2_At,x2_Kind,x2_Place,⟨x2_Trip_Leg,x2_Trip_Day⟩⟩:=x2;try dsimp only at h_1
  refine AGet.mk _ (eC hg ht hx2) ?_;cbv
  cases hb2:(lt a3 x2_At)
  rotate_left
  ·rw[ab hb2] at h_1;cbv;obtain rfl:=Option.some.inj h_1;try dsimp only[lr,lrL,lrp,aW] at h
   obtain rfl:=Option.some.inj h;exact ARet.mk trivial hX.symm
  rw[aa hb2] at h_1;cbv;try rw[hg] at h_1
  try rw[ht] at h_1
  refine⟨⟨(n1,(wrap .i64 (add v1 1))),hs1.1,hs1.2,h_1⟩,Wk.of [(0,some 0),(1,some 1)] rfl rfl ?_ ?_,Nat.lt_succ_self _⟩
  ·cbv;all_goals exact⟨⟨_,rfl,rfl⟩,⟨_,rfl,rfl⟩,⟨_,rfl,rfl⟩,⟨_,rfl,rfl⟩,⟨_,rfl,rfl⟩,trivial⟩
  cbv;all_goals exact⟨⟨_,rfl,_,rfl,rfl,rfl,rfl,rfl,rfl,rfl,trivial⟩,⟨_,rfl,rfl⟩,trivial⟩
 rintro _ hy1;replace hy1:=hy1.symm;subst hy1;try dsimp only[lr,lrL,lrp,aW] at h
 cbv;obtain rfl:=Option.some.inj h;exact ARet.mk trivial hX.symm
def ir98:J:=js [jq 4 (.box 0),jq 8 (.alloc [.n 6,.n 1,.r (.v (.int .i64 0)),.r (.v (.int .i64 0)),.r (.v (.bool false)),.r (.v (.string .empty)),.r (.v (.int .i64 0)),.r (.v (.int .i64 0)),.r (.v (.bool false)),.r (.v (.bool false)),.r (.v (.string .empty)),.r (.v (.int .i64 0)),.r (.v (.string .empty)),.r (.v (.int .i64 0)),.r (.v (.bool false))])] [1,2,3,4,8] (js [jl 14 3 4,jm 15 3,jq 16 (.bld [.n 6,.n 1,.r (.v (.int .i64 0)),.r (.v (.int .i64 0)),.r (.v (.bool false)),.r (.v (.string .empty)),.r (.v (.int .i64 0)),.r (.v (.int .i64 0)),.r (.v (.bool false)),.r (.v (.bool false)),.r (.v (.string .empty)),.r (.v (.int .i64 0)),.r (.v (.string .empty)),.r (.v (.int .i64 0)),.r (.v (.bool false))] [(0,3,14),(3,1,15)]),jq 9 (.alloc [.n 6,.n 1,.r (.v (.int .i64 0)),.r (.v (.int .i64 0)),.r (.v (.bool false)),.r (.v (.string .empty)),.r (.v (.int .i64 0)),.r (.v (.int .i64 0)),.r (.v (.bool false)),.r (.v (.bool false)),.r (.v (.string .empty)),.r (.v (.int .i64 0)),.r (.v (.string .empty)),.r (.v (.int .i64 0)),.r (.v (.bool false))]),jp (.st 15 9 16)] [1,2,3,4,8,9] (js [jl 18 3 4,jm 19 1,jm 20 2,jm 21 3,jc 22 50 [18,19,20,21],jm 17 22,jq 23 (.ext 0 17),jq 24 (.ext 1 17),jq 10 (.alloc [.r (.v (.int .i64 0)),.r (.v (.int .i64 0)),.r (.v (.int .i64 0)),.r (.v (.string .empty)),.r (.v (.int .i64 0)),.r (.v (.int .i64 0))]),jp (.st 6 10 23),jm 11 24] [1,2,3,4,8,9,10,11] (js [jl 26 3 4,jm 27 1,jm 28 2,jm 29 3,jc 30 52 [26,27,28,29],jm 25 30,jq 31 (.ext 0 25),jq 32 (.ext 1 25),jq 12 (.alloc [.r (.v (.int .i64 0)),.r (.v (.int .i64 0)),.r (.v (.int .i64 0)),.r (.v (.string .empty)),.r (.v (.int .i64 0)),.r (.v (.int .i64 0))]),jp (.st 6 12 31),jm 13 32] [3,4,8,9,10,11,12,13] (.seq (.block 0 (js [jm 45 11,jq 46 (.not 45),jm 47 46,jv 48 47 (.fa 2 10),jv 49 47 (.ld false 1 48),jv 50 47 (.bin .eql .i 49 (ki 4)),jq 51 (.pick 47 kt 50),jm 44 51] [3,4,8,9,10,12,13,44] (.cond 44 (js [jl 52 15 9,jp (.st 15 8 52)] [8] .ret) (js [jm 54 13,jm 55 54,ju 56 55 (.fa 2 12),ju 57 55 (.ld false 1 56),ju 58 55 (.bin .eql .i 57 (ki 2)),jq 59 (.pick 55 58 kf),jm 60 59,ju 61 60 (.ld true 3 4),ju 62 60 (.fa 4 12),ju 63 60 (.ld true 2 62),ju 64 60 (.call 85 true [61,63]),ju 65 60 (.mv 3),ju 66 60 (.bin .leq .i 64 65),jq 67 (.pick 60 66 kf),jm 53 67] [3,4,8,9,10,12,13,53] (.cond 53 (js [jf 68 4 9,jp (.st 1 68 kt)] [3,4,8,9,12] (js [jm 69 3,jl 70 3 4,jf 71 4 12,jl 72 2 71,jc 73 86 [70,72],jb 74 .lss .i 69 73,jf 75 8 9,jp (.st 1 75 74)] [4,8,9,12] (js [jf 76 4 12,jl 77 2 76,jf 78 6 9,jp (.st 2 78 77)] [4,8,9,12] (.reg none [jf 79 0 4,jk 80 79,jf 81 4 12,jf 82 0 81,jk 83 82,ja 84 6 80 83,jf 85 1 84,jk 86 85,jf 87 5 9,jp (.st 1 87 86)] [8,9])))) (js [jf 89 2 10,jk 90 89,jb 91 .eql .i 90 (ki 3),jm 92 91,ju 93 92 (.ld true 3 4),ju 94 92 (.fa 4 10),ju 95 92 (.ld true 2 94),ju 96 92 (.call 86 true [93,
 95]),ju 97 92 (.mv 3),ju 98 92 (.bin .gtr .i 96 97),jq 99 (.pick 92 98 kf),jm 88 99] [3,4,8,9,10,12,13,88] (.cond 88 (js [jf 100 4 9,jp (.st 1 100 kt)] [3,4,8,9,10] (js [jl 101 3 4,jf 102 4 10,jl 103 2 102,jc 104 85 [101,103],jm 105 3,jb 106 .leq .i 104 105,jf 107 8 9,jp (.st 1 107 106)] [4,8,9,10] (js [jf 108 4 10,jl 109 2 108,jf 110 6 9,jp (.st 2 110 109)] [4,8,9,10] (.reg none [jf 111 0 4,jk 112 111,jf 113 4 10,jf 114 0 113,jk 115 114,ja 116 6 112 115,jf 117 0 116,jk 118 117,jf 119 5 9,jp (.st 1 119 118)] [8,9])))) (js [jf 33 9 9,jp (.st 1 33 kt)] [4,8,9,10,12,13] (js [jl 34 3 4,jl 35 6 10,jc 36 105 [34,35],jf 37 10 9,jp (.st 2 37 36)] [4,8,9,12,13] (js [jm 38 13,jf 39 14 9,jp (.st 1 39 38)] [4,8,9,12] (.reg none [jl 40 3 4,jl 41 6 12,jc 42 106 [40,41],jf 43 12 9,jp (.st 2 43 42)] [8,9]))))))))))) (js [jl 120 15 9,jp (.st 15 8 120)] [8] .ret)))))
def rv98:List RV:=[.c 8 true 15]
def jK (g:G) (t:TE) (a0:Network) (a1:List Scan) (a2:Int) (a3:Int):Option Know:=
 cl (iD g t a0 a1 a2 a3) fun x1=>
 cl (iM g t a0 a1 a2 a3) fun x2=>
 br x1.2
 (
  br (g.eq x1.1.Kind 4)
  (
   some (Know.mk a0 a3 false ByteArray.empty (Trip.mk 0 0) false false (Spot.mk ByteArray.empty 0) (Spot.mk ByteArray.empty 0) false))
  (
   br x2.2
   (
    br (g.eq x2.1.Kind 2)
    (
     cl (ci g t a0 (Trip.mk x2.1.Trip.Leg x2.1.Trip.Day)) fun x3=>
     br (g.le x3 a3)
     (
      cl (eu g t a0 (Trip.mk x2.1.Trip.Leg x2.1.Trip.Day)) fun x4=>
      gd (((0:Int)≤x2.1.Trip.Leg))<|
      gt a0.Legs (g.nat x2.1.Trip.Leg) fun x5=>
      some (Know.mk a0 a3 true x5.To (Trip.mk x2.1.Trip.Leg x2.1.Trip.Day) (g.lt a3 x4) false (Spot.mk ByteArray.empty 0) (Spot.mk ByteArray.empty 0) false))
     (
      br (g.eq x1.1.Kind 3)
      (
       cl (eu g t a0 (Trip.mk x1.1.Trip.Leg x1.1.Trip.Day)) fun x6=>
       br (g.lt a3 x6)
       (
        cl (ci g t a0 (Trip.mk x1.1.Trip.Leg x1.1.Trip.Day)) fun x7=>
        gd (((0:Int)≤x1.1.Trip.Leg))<|
        gt a0.Legs (g.nat x1.1.Trip.Leg) fun x8=>
        some (Know.mk a0 a3 true x8.From (Trip.mk x1.1.Trip.Leg x1.1.Trip.Day) (g.le x7 a3) false (Spot.mk ByteArray.empty 0) (Spot.mk ByteArray.empty 0) false))
       (
        cl (bk g t a0 (Scan.mk x1.1.Thing x1.1.At x1.1.Kind x1.1.Place (Trip.mk x1.1.Trip.Leg x1.1.Trip.Day))) fun x9=>
        cl (bj g t a0 (Scan.mk x2.1.Thing x2.1.At x2.1.Kind x2.1.Place (Trip.mk x2.1.Trip.Leg x2.1.Trip.Day))) fun x10=>
        some (Know.mk a0 a3 false ByteArray.empty (Trip.mk 0 0) false true x9 x10 x2.2)))
      (
       cl (bk g t a0 (Scan.mk x1.1.Thing x1.1.At x1.1.Kind x1.1.Place (Trip.mk x1.1.Trip.Leg x1.1.Trip.Day))) fun x11=>
       cl (bj g t a0 (Scan.mk x2.1.Thing x2.1.At x2.1.Kind x2.1.Place (Trip.mk x2.1.Trip.Leg x2.1.Trip.Day))) fun x12=>
       some (Know.mk a0 a3 false ByteArray.empty (Trip.mk 0 0) false true x11 x12 x2.2))))
    (
     br (g.eq x1.1.Kind 3)
     (
      cl (eu g t a0 (Trip.mk x1.1.Trip.Leg x1.1.Trip.Day)) fun x13=>
      br (g.lt a3 x13)
      (
       cl (ci g t a0 (Trip.mk x1.1.Trip.Leg x1.1.Trip.Day)) fun x14=>
       gd (((0:Int)≤x1.1.Trip.Leg))<|
       gt a0.Legs (g.nat x1.1.Trip.Leg) fun x15=>
       some (Know.mk a0 a3 true x15.From (Trip.mk x1.1.Trip.Leg x1.1.Trip.Day) (g.le x14 a3) false (Spot.mk ByteArray.empty 0) (Spot.mk ByteArray.empty 0) false))
      (
       cl (bk g t a0 (Scan.mk x1.1.Thing x1.1.At x1.1.Kind x1.1.Place (Trip.mk x1.1.Trip.Leg x1.1.Trip.Day))) fun x16=>
       cl (bj g t a0 (Scan.mk x2.1.Thing x2.1.At x2.1.Kind x2.1.Place (Trip.mk x2.1.Trip.Leg x2.1.Trip.Day))) fun x17=>
       some (Know.mk a0 a3 false ByteArray.empty (Trip.mk 0 0) false true x16 x17 x2.2)))
     (
      cl (bk g t a0 (Scan.mk x1.1.Thing x1.1.At x1.1.Kind x1.1.Place (Trip.mk x1.1.Trip.Leg x1.1.Trip.Day))) fun x18=>
      cl (bj g t a0 (Scan.mk x2.1.Thing x2.1.At x2.1.Kind x2.1.Place (Trip.mk x2.1.Trip.Leg x2.1.Trip.Day))) fun x19=>
      some (Know.mk a0 a3 false ByteArray.empty (Trip.mk 0 0) false true x18 x19 x2.2))))
   (
    br (g.eq x1.1.Kind 3)
    (
     cl (eu g t a0 (Trip.mk x1.1.Trip.Leg x1.1.Trip.Day)) fun x20=>
     br (g.lt a3 x20)
     (
      cl (ci g t a0 (Trip.mk x1.1.Trip.Leg x1.1.Trip.Day)) fun x21=>
      gd (((0:Int)≤x1.1.Trip.Leg))<|
      gt a0.Legs (g.nat x1.1.Trip.Leg) fun x22=>
      some (Know.mk a0 a3 true x22.From (Trip.mk x1.1.Trip.Leg x1.1.Trip.Day) (g.le x21 a3) false (Spot.mk ByteArray.empty 0) (Spot.mk ByteArray.empty 0) false))
     (
      cl (bk g t a0 (Scan.mk x1.1.Thing x1.1.At x1.1.Kind x1.1.Place (Trip.mk x1.1.Trip.Leg x1.1.Trip.Day))) fun x23=>
      cl (bj g t a0 (Scan.mk x2.1.Thing x2.1.At x2.1.Kind x2.1.Place (Trip.mk x2.1.Trip.Leg x2.1.Trip.Day))) fun x24=>
      some (Know.mk a0 a3 false ByteArray.empty (Trip.mk 0 0) false true x23 x24 x2.2)))
    (
     cl (bk g t a0 (Scan.mk x1.1.Thing x1.1.At x1.1.Kind x1.1.Place (Trip.mk x1.1.Trip.Leg x1.1.Trip.Day))) fun x25=>
     cl (bj g t a0 (Scan.mk x2.1.Thing x2.1.At x2.1.Kind x2.1.Place (Trip.mk x2.1.Trip.Leg x2.1.Trip.Day))) fun x26=>
     some (Know.mk a0 a3 false ByteArray.empty (Trip.mk 0 0) false true x25 x26 x2.2)))))
 (
  some (Know.mk a0 a3 false ByteArray.empty (Trip.mk 0 0) false false (Spot.mk ByteArray.empty 0) (Spot.mk ByteArray.empty 0) false))
theorem we {g:G} {t:TE} {a0:Network} {a1:List Scan} {a2:Int} {a3:Int} {r:Know} (hg:g=G.real) (ht:t=TE.real) (h:jK g t a0 a1 a2 a3=some r):Fn Tryz.prog 98 [.g (Network.rs t a0),.c (.s 6 (t.r_Scan a1)),.c (.v (.int .i64 a2)),.c (.v (.int .i64 a3))] (.g (Know.ds t r)):=by
 obtain⟨X,hX⟩:=aE (.g (Know.ds t r):X);rw[←hX];refine az (rvs:=rv98) (j:=ir98) Tryz.func98 rfl (by kernel_rfl) (nb rfl) (by kernel_rfl) ac ?_;intro g2 F hg2 hF;obtain rfl:g2=g:=hg2.unique.trans hg.symm;clear hg2;obtain⟨_,lt,le,eq⟩:=g2;obtain⟨_⟩:=t
 obtain⟨a0_Legs,a0_Off,a0_Change⟩:=a0;unfold jK at h;try dsimp only at h
 cbv;obtain⟨x1,hx1,h⟩:=ae h;obtain⟨⟨x1_1_Thing,x1_1_At,x1_1_Kind,x1_1_Place,⟨x1_1_Trip_Leg,x1_1_Trip_Day⟩⟩,x1_2⟩:=x1;try dsimp only at h
 refine ACall.mk _ _ rfl (hF _ _ _ (tR hg ht hx1)) (.inl rfl) (nb rfl) ?_;cbv;obtain⟨x2,hx2,h⟩:=ae h;obtain⟨⟨x2_1_Thing,x2_1_At,x2_1_Kind,x2_1_Place,⟨x2_1_Trip_Leg,x2_1_Trip_Day⟩⟩,x2_2⟩:=x2;try dsimp only at h
 refine ACall.mk _ _ rfl (hF _ _ _ (uA hg ht hx2)) (.inl rfl) (nb rfl) ?_;cbv;have hb1:x1_2=true∨x1_2=false:=by cases x1_2<;>simp
 rcases hb1 with hb1|hb1
 ·rw[ab hb1] at h;have hK_:=h;subst hb1;have h:=hK_;clear hK_;cbv;iterate 3 try(rw[hb1];cbv)
  cases hb2:(eq x1_1_Kind 4)
  rotate_left
  ·rw[ab hb2] at h;cbv;obtain rfl:=Option.some.inj h;exact ARet.mk trivial hX.symm
  rw[aa hb2] at h;cbv;have hb3:x2_2=true∨x2_2=false:=by cases x2_2<;>simp
  rcases hb3 with hb3|hb3
  ·rw[ab hb3] at h;have hK_:=h;subst hb3;have h:=hK_;clear hK_;cbv;iterate 3 try(rw[hb3];cbv)
   cases hb4:(eq x2_1_Kind 2)
   ·rw[aa hb4] at h;cbv;iterate 6 try(rw[hb4];cbv)
    cases hb8:(eq x1_1_Kind 3)
    ·rw[aa hb8] at h;cbv;iterate 6 try(rw[hb8];cbv)
     obtain⟨x18,hx18,h⟩:=ae h;obtain⟨x18_Place,x18_At⟩:=x18;try dsimp only at h
     refine ACall.mk _ _ rfl (hF _ _ _ (bQ hg ht hx18)) (.inl rfl) (nb rfl) ?_;cbv;obtain⟨x19,hx19,h⟩:=ae h;obtain⟨x19_Place,x19_At⟩:=x19;try dsimp only at h
     refine ACall.mk _ _ rfl (hF _ _ _ (bG hg ht hx19)) (.inl rfl) (nb rfl) ?_;cbv;obtain rfl:=Option.some.inj h;exact ARet.mk trivial hX.symm
    rw[ab hb8] at h;cbv;iterate 3 try(rw[hb8];cbv)
    obtain⟨x13,hx13,h⟩:=ae h;try dsimp only at h
    refine ACall.mk _ _ rfl (hF _ _ _ (d9 hg ht hx13)) (.inl rfl) (nb rfl) ?_;cbv;iterate 3 try(rw[hb8];cbv)
    cases hb9:(lt a3 x13)
    ·rw[aa hb9] at h;cbv;obtain⟨x16,hx16,h⟩:=ae h;obtain⟨x16_Place,x16_At⟩:=x16;try dsimp only at h
     refine ACall.mk _ _ rfl (hF _ _ _ (bQ hg ht hx16)) (.inl rfl) (nb rfl) ?_;cbv;obtain⟨x17,hx17,h⟩:=ae h;obtain⟨x17_Place,x17_At⟩:=x17;try dsimp only at h
     refine ACall.mk _ _ rfl (hF _ _ _ (bG hg ht hx17)) (.inl rfl) (nb rfl) ?_;cbv;obtain rfl:=Option.some.inj h;exact ARet.mk trivial hX.symm
    rw[ab hb9] at h;cbv;obtain⟨x14,hx14,h⟩:=ae h;try dsimp only at h
    refine ACall.mk _ _ rfl (hF _ _ _ (cA hg ht hx14)) (.inl rfl) (nb rfl) ?_;cbv;obtain⟨hc3,h⟩:=aj h;refine AStep.mk hc3 ?_;cbv;obtain⟨x15,hx15,h⟩:=aH h;obtain⟨x15_From,x15_To,x15_Start,x15_Takes,x15_Days,x15_Room⟩:=x15;try dsimp only at h
    refine AGet.mk _ (aX hg ht hx15) ?_;cbv;obtain rfl:=Option.some.inj h;exact ARet.mk trivial hX.symm
   rw[ab hb4] at h;cbv;iterate 3 try(rw[hb4];cbv)
   obtain⟨x3,hx3,h⟩:=ae h;try dsimp only at h
   refine ACall.mk _ _ rfl (hF _ _ _ (cA hg ht hx3)) (.inl rfl) (nb rfl) ?_;cbv;iterate 3 try(rw[hb4];cbv)
   cases hb5:(le x3 a3)
   rotate_left
   ·rw[ab hb5] at h;cbv;obtain⟨x4,hx4,h⟩:=ae h;try dsimp only at h
    refine ACall.mk _ _ rfl (hF _ _ _ (d9 hg ht hx4)) (.inl rfl) (nb rfl) ?_;cbv;obtain⟨hc1,h⟩:=aj h;refine AStep.mk hc1 ?_;cbv;obtain⟨x5,hx5,h⟩:=aH h;obtain⟨x5_From,x5_To,x5_Start,x5_Takes,x5_Days,x5_Room⟩:=x5;try dsimp only at h
    refine AGet.mk _ (aX hg ht hx5) ?_;cbv;obtain rfl:=Option.some.inj h;exact ARet.mk trivial hX.symm
   rw[aa hb5] at h;cbv
   cases hb6:(eq x1_1_Kind 3)
   ·rw[aa hb6] at h;cbv;iterate 6 try(rw[hb6];cbv)
    obtain⟨x11,hx11,h⟩:=ae h;obtain⟨x11_Place,x11_At⟩:=x11;try dsimp only at h
    refine ACall.mk _ _ rfl (hF _ _ _ (bQ hg ht hx11)) (.inl rfl) (nb rfl) ?_;cbv;obtain⟨x12,hx12,h⟩:=ae h;obtain⟨x12_Place,x12_At⟩:=x12;try dsimp only at h
    refine ACall.mk _ _ rfl (hF _ _ _ (bG hg ht hx12)) (.inl rfl) (nb rfl) ?_;cbv;obtain rfl:=Option.some.inj h;exact ARet.mk trivial hX.symm
   rw[ab hb6] at h;cbv;iterate 3 try(rw[hb6];cbv)
   obtain⟨x6,hx6,h⟩:=ae h;try dsimp only at h
   refine ACall.mk _ _ rfl (hF _ _ _ (d9 hg ht hx6)) (.inl rfl) (nb rfl) ?_;cbv;iterate 3 try(rw[hb6];cbv)
   cases hb7:(lt a3 x6)
   ·rw[aa hb7] at h;cbv;obtain⟨x9,hx9,h⟩:=ae h;obtain⟨x9_Place,x9_At⟩:=x9;try dsimp only at h
    refine ACall.mk _ _ rfl (hF _ _ _ (bQ hg ht hx9)) (.inl rfl) (nb rfl) ?_;cbv;obtain⟨x10,hx10,h⟩:=ae h;obtain⟨x10_Place,x10_At⟩:=x10;try dsimp only at h
    refine ACall.mk _ _ rfl (hF _ _ _ (bG hg ht hx10)) (.inl rfl) (nb rfl) ?_;cbv;obtain rfl:=Option.some.inj h;exact ARet.mk trivial hX.symm
   rw[ab hb7] at h;cbv;obtain⟨x7,hx7,h⟩:=ae h;try dsimp only at h
   refine ACall.mk _ _ rfl (hF _ _ _ (cA hg ht hx7)) (.inl rfl) (nb rfl) ?_;cbv;obtain⟨hc2,h⟩:=aj h;refine AStep.mk hc2 ?_;cbv;obtain⟨x8,hx8,h⟩:=aH h;obtain⟨x8_From,x8_To,x8_Start,x8_Takes,x8_Days,x8_Room⟩:=x8;try dsimp only at h
   refine AGet.mk _ (aX hg ht hx8) ?_;cbv;obtain rfl:=Option.some.inj h;exact ARet.mk trivial hX.symm
  rw[aa hb3] at h;have hK_:=h;subst hb3;have h:=hK_;clear hK_;cbv;iterate 3 try(rw[hb3];cbv)
  cases hb10:(eq x1_1_Kind 3)
  ·rw[aa hb10] at h;cbv;iterate 6 try(rw[hb10];cbv)
   obtain⟨x25,hx25,h⟩:=ae h;obtain⟨x25_Place,x25_At⟩:=x25;try dsimp only at h
   refine ACall.mk _ _ rfl (hF _ _ _ (bQ hg ht hx25)) (.inl rfl) (nb rfl) ?_;cbv;obtain⟨x26,hx26,h⟩:=ae h;obtain⟨x26_Place,x26_At⟩:=x26;try dsimp only at h
   refine ACall.mk _ _ rfl (hF _ _ _ (bG hg ht hx26)) (.inl rfl) (nb rfl) ?_;cbv;obtain rfl:=Option.some.inj h;exact ARet.mk trivial hX.symm
  rw[ab hb10] at h;cbv;iterate 3 try(rw[hb10];cbv)
  obtain⟨x20,hx20,h⟩:=ae h;try dsimp only at h
  refine ACall.mk _ _ rfl (hF _ _ _ (d9 hg ht hx20)) (.inl rfl) (nb rfl) ?_;cbv;iterate 3 try(rw[hb10];cbv)
  cases hb11:(lt a3 x20)
  ·rw[aa hb11] at h;cbv;obtain⟨x23,hx23,h⟩:=ae h;obtain⟨x23_Place,x23_At⟩:=x23;try dsimp only at h
   refine ACall.mk _ _ rfl (hF _ _ _ (bQ hg ht hx23)) (.inl rfl) (nb rfl) ?_;cbv;obtain⟨x24,hx24,h⟩:=ae h;obtain⟨x24_Place,x24_At⟩:=x24;try dsimp only at h
   refine ACall.mk _ _ rfl (hF _ _ _ (bG hg ht hx24)) (.inl rfl) (nb rfl) ?_;cbv;obtain rfl:=Option.some.inj h;exact ARet.mk trivial hX.symm
  rw[ab hb11] at h;cbv;obtain⟨x21,hx21,h⟩:=ae h;try dsimp only at h
  refine ACall.mk _ _ rfl (hF _ _ _ (cA hg ht hx21)) (.inl rfl) (nb rfl) ?_;cbv;obtain⟨hc4,h⟩:=aj h;refine AStep.mk hc4 ?_;cbv;obtain⟨x22,hx22,h⟩:=aH h;obtain⟨x22_From,x22_To,x22_Start,x22_Takes,x22_Days,x22_Room⟩:=x22;try dsimp only at h
  refine AGet.mk _ (aX hg ht hx22) ?_;cbv;obtain rfl:=Option.some.inj h;exact ARet.mk trivial hX.symm
 rw[aa hb1] at h;have hK_:=h;subst hb1;have h:=hK_;clear hK_;cbv;iterate 3 try(rw[hb1];cbv)
 obtain rfl:=Option.some.inj h;exact ARet.mk trivial hX.symm
def Gf:J:=js [jq 5 (.box 0),jm 10 kf] [1,2,3,4,5] (.seq (js [jm 12 1,jm 13 3,jb 14 .eql .s 12 13] [1,2,3,4,5,14] (.cond 14 (js [jm 15 2,jm 16 4,jb 17 .leq .i 15 16,jm 10 17] [10] .ret) .skip)) (js [jl 18 3 5,jm 19 1,jm 20 3,jm 21 2,jc 22 29 [18,19,20,21],jm 11 22] [4,11] (js [jm 23 11,jq 24 (.bin .neq .i 23 (.k (V.i (-1)))),jm 25 24,ju 26 25 (.mv 11),ju 27 25 (.mv 4),ju 28 25 (.bin .leq .i 26 27),jq 29 (.pick 25 28 kf),jm 10 29] [10] .ret)))
def Hm:List RV:=[.t 10]
def dO (g:G) (t:TE) (a0:Network) (a1:ByteArray) (a2:Int) (a3:ByteArray) (a4:Int):Option Bool:=
 br (g.seq a1 a3)
 (
  some (g.le a2 a4))
 (
  cl (eU g t a0 a1 a3 a2) fun x1=>
  br (g.eq x1 (-1))
  (
   some false)
  (
   some (g.le x1 a4)))
theorem gO {g:G} {t:TE} {a0:Network} {a1:ByteArray} {a2:Int} {a3:ByteArray} {a4:Int} {r:Bool} (hg:g=G.real) (ht:t=TE.real) (h:dO g t a0 a1 a2 a3 a4=some r):Fn Tryz.prog 143 [.g (Network.rs t a0),.c (.v (.string a1)),.c (.v (.int .i64 a2)),.c (.v (.string a3)),.c (.v (.int .i64 a4))] (.c (.r (.v (.bool r)))):=by
 obtain⟨X,hX⟩:=aE (.c (.r (.v (.bool r))):X);rw[←hX];refine az (rvs:=Hm) (j:=Gf) Tryz.func143 rfl (by kernel_rfl) (nb rfl) (by kernel_rfl) ac ?_;intro g2 F hg2 hF;obtain rfl:g2=g:=hg2.unique.trans hg.symm;clear hg2;obtain⟨_,_,_,eq,_,_,_,_,_,_,_,_,_,_,_,_,_,seq⟩:=g2;obtain⟨_⟩:=t
 obtain⟨a0_Legs,a0_Off,a0_Change⟩:=a0;unfold dO at h;try dsimp only at h
 cbv
 cases hb1:(seq a1 a3)
 rotate_left
 ·rw[ab hb1] at h;cbv;obtain rfl:=Option.some.inj h;exact ARet.mk trivial hX.symm
 rw[aa hb1] at h;cbv;obtain⟨x1,hx1,h⟩:=ae h;try dsimp only at h
 refine ACall.mk _ _ rfl (hF _ _ _ (kI hg ht hx1)) (.inl rfl) (nb rfl) ?_;cbv
 cases hb2:(eq x1 (-1))
 rotate_left
 ·rw[ab hb2] at h;cbv;iterate 3 try(rw[hb2];cbv)
  obtain rfl:=Option.some.inj h;exact ARet.mk trivial hX.symm
 rw[aa hb2] at h;cbv;iterate 3 try(rw[hb2];cbv)
 obtain rfl:=Option.some.inj h;exact ARet.mk trivial hX.symm
def ir99:J:=js [jq 2 (.box 0),jm 4 kf] [1,2] (.seq (js [jf 5 4 2,jk 6 5] [1,2,6] (.cond 6 (js [jf 7 8 2,jk 8 7,jq 9 (.not 8),jm 10 9,ju 11 10 (.fa 5 2),ju 12 10 (.ld false 1 11),ju 13 10 (.mv 1),ju 14 10 (.bin .eql .s 12 13),jq 15 (.pick 10 14 kf),jm 4 15] [4] .ret) .skip)) (js [jf 16 9 2,jk 17 16,jm 18 17,ju 19 18 (.fa 0 2),ju 20 18 (.ld true 3 19),ju 21 18 (.fa 10 2),ju 22 18 (.fa 0 21),ju 23 18 (.ld false 1 22),ju 24 18 (.fa 10 2),ju 25 18 (.fa 1 24),ju 26 18 (.ld false 1 25),ju 27 18 (.mv 1),ju 28 18 (.fa 3 2),ju 29 18 (.ld false 1 28),ju 30 18 (.call 143 true [20,23,26,27,29]),jq 31 (.pick 18 30 kf),jm 32 31,ju 33 32 (.fa 14 2),ju 34 32 (.ld false 1 33),ju 35 32 (.not 34),ju 36 32 (.mv 35),jv 37 36 (.fa 0 2),jv 38 36 (.ld true 3 37),jv 39 36 (.mv 1),jv 40 36 (.fa 3 2),jv 41 36 (.ld false 1 40),jv 42 36 (.fa 12 2),jv 43 36 (.fa 0 42),jv 44 36 (.ld false 1 43),jv 45 36 (.fa 12 2),jv 46 36 (.fa 1 45),jv 47 36 (.ld false 1 46),jv 48 36 (.call 143 true [38,39,41,44,47]),ju 49 32 (.pick 36 kt 48),jq 50 (.pick 32 49 kf),jm 4 50] [4] .ret))
def rv99:List RV:=[.t 4]
def au (g:G) (t:TE) (a0:Know) (a1:ByteArray):Option Bool:=
 br a0.known
 (
  br a0.rides
  (
   some false)
  (
   some (g.seq a0.place a1)))
 (
  br a0.free
  (
   cl (dO g t (Network.mk a0.n.Legs a0.n.Off a0.n.Change) a0.from_.Place a0.from_.At a1 a0.at_) fun x1=>
   br x1
   (
    br a0.more
    (
     cl (dO g t (Network.mk a0.n.Legs a0.n.Off a0.n.Change) a1 a0.at_ a0.to.Place a0.to.At) fun x2=>
     some x2)
    (
     some true))
   (
    some false))
  (
   some false))
theorem dI {g:G} {t:TE} {a0:Know} {a1:ByteArray} {r:Bool} (hg:g=G.real) (ht:t=TE.real) (h:au g t a0 a1=some r):Fn Tryz.prog 99 [.g (Know.rs t a0),.c (.v (.string a1))] (.c (.r (.v (.bool r)))):=by
 obtain⟨X,hX⟩:=aE (.c (.r (.v (.bool r))):X);rw[←hX];refine az (rvs:=rv99) (j:=ir99) Tryz.func99 rfl (by kernel_rfl) (nb rfl) (by kernel_rfl) ac ?_;intro g2 F hg2 hF;obtain rfl:g2=g:=hg2.unique.trans hg.symm;clear hg2;obtain⟨_⟩:=g2;obtain⟨_⟩:=t
 obtain⟨⟨a0_n_Legs,a0_n_Off,a0_n_Change⟩,a0_at_,a0_known,a0_place,⟨a0_ride_Leg,a0_ride_Day⟩,a0_rides,a0_free,⟨a0_from__Place,a0_from__At⟩,⟨a0_to_Place,a0_to_At⟩,a0_more⟩:=a0;unfold au at h;try dsimp only at h
 cbv
 cases hb1:a0_known
 rotate_left
 ·rw[ab hb1] at h;cbv
  cases hb2:a0_rides
  rotate_left
  ·rw[ab hb2] at h;cbv;iterate 4 try(rw[hb2];cbv)
   obtain rfl:=Option.some.inj h;exact ARet.mk trivial hX.symm
  rw[aa hb2] at h;cbv;iterate 4 try(rw[hb2];cbv)
  obtain rfl:=Option.some.inj h;exact ARet.mk trivial hX.symm
 rw[aa hb1] at h;cbv
 cases hb3:a0_free
 ·rw[aa hb3] at h;cbv;iterate 12 try(rw[hb3];cbv)
  obtain rfl:=Option.some.inj h;exact ARet.mk trivial hX.symm
 rw[ab hb3] at h;cbv;iterate 11 try(rw[hb3];cbv)
 obtain⟨x1,hx1,h⟩:=ae h;try dsimp only at h
 refine ACall.mk _ _ rfl (hF _ _ _ (gO hg ht hx1)) (.inl rfl) (nb rfl) ?_;cbv;try(rw[hb3];cbv)
 cases hb4:x1
 ·rw[aa hb4] at h;cbv;iterate 5 try(rw[hb4];cbv)
  obtain rfl:=Option.some.inj h;exact ARet.mk trivial hX.symm
 rw[ab hb4] at h;cbv;iterate 3 try(rw[hb4];cbv)
 cases hb5:a0_more
 ·rw[aa hb5] at h;cbv;iterate 11 try(rw[hb5];cbv)
  try(rw[hb4];cbv)
  try(rw[hb5];cbv)
  try(rw[hb4];cbv)
  obtain rfl:=Option.some.inj h;exact ARet.mk trivial hX.symm
 rw[ab hb5] at h;cbv;iterate 11 try(rw[hb5];cbv)
 obtain⟨x2,hx2,h⟩:=ae h;try dsimp only at h
 refine ACall.mk _ _ rfl (hF _ _ _ (gO hg ht hx2)) (.inl rfl) (nb rfl) ?_;cbv;try(rw[hb4];cbv)
 try(rw[hb5];cbv)
 try(rw[hb4];cbv)
 obtain rfl:=Option.some.inj h;exact ARet.mk trivial hX.symm
def GH:J:=js [jq 2 (.box 0),jq 3 (.box 1),jm 4 kf] [2,3] (.seq (js [jf 6 4 2,jk 7 6] [2,3,7] (.cond 7 (js [jf 8 8 2,jk 9 8,jm 10 9,ju 11 10 (.fa 6 2),ju 12 10 (.ld true 2 11),ju 13 10 (.ld true 2 3),ju 14 10 (.eqs false [.i,.i] 12 13),jq 15 (.pick 10 14 kf),jm 4 15] [4] .ret) .skip)) (js [jf 16 0 2,jf 17 0 16,jk 18 17,jf 19 0 3,jk 20 19,ja 21 6 18 20,jl 22 6 21,jq 5 (.alloc [.r (.v (.string .empty)),.r (.v (.string .empty)),.r (.v (.int .i64 0)),.r (.v (.int .i64 0)),.r (.v (.int .i64 0)),.r (.v (.int .i64 0))]),jp (.st 6 5 22)] [2,3,5] (.seq (.seq (.reg (some [[],[0],[0,1],[0,1,2],[0,1,2,3],[0,1,2,3,4],[0,1,2,3],[0,1,2,3,4,5,6],[0,1,2,3],[0,1,2,3,8],[0,1,2,3,4,5,6,7,8,9],[0,1,2,3,4,5,6,7,8,9,10],[0,1,2,3,4,5,6,7,8,9,10,11],[0,1,2,3,4,5,6,7,8,9,10,11,12],[0,1,2,3,4,5,6,7,8,9,10,11,12,13],[0,1,2,3,4,5,6,7,8,9,10,11,12],[0,1,2,3,4,5,6,7,8,9,10,11,12,13,14,15],[0,1,2,3,4,5,6,7,8,9,10,11,12],[0,1,2,3,4,5,6,7,8,9,10,11,12,17],[0,1,2,3,4,5,6,7,8,9,10,11,12,13,14,15,16,17,18],[0,1,2,3,4,5,6,7,8,9,10,11,12,13,14,15,16,17,18,19],[0,1,2,3,4,5,6,7,8,9,10,11,12,13,14,15,16,17,18,19,20],[0,1,2,3,4,5,6,7,8,9,10,11,12,13,14,15,16,17,18,19,20,21],[0,1,2,3,4,5,6,7,8,9,10,11,12,13,14,15,16,17,18,19,20,21,22],[0,1,2,3,4,5,6,7,8,9,10,11,12,13,14,15,16,17,18,19,20,21],[0,1,2,3,4,5,6,7,8,9,10,11,12,13,14,15,16,17,18,19,20,21,24],[0,1,2,3,4,5,6,7,8,9,10,11,12,13,14,15,16,17,18,19,20,21,24,25],[0,1,2,3,4,5,6,7,8,9,10,11,12,13,14,15,16,17,18,19,20,21],[0,1,2,3,4,5,6,7,8,9,10,11,12,13,14,15,16,17,18,19,20,21,27],[0,1,2,3,4,5,6,7,8,9,10,11,12,13,14,15,16,17,18,19,20,21,27,28],[0,1,2,3,4,5,6,7,8,9,10,11,12,13,14,15,16,17,18,19,20,21],[0,1,2,3,4,5,6,7,8,9,10,11,12,13,14,15,16,17,18,19,20,21,30],[0,1,2,3,4,5,6,7,8,9,10,11,12,13,14,15,16,17,18,19,20,21],[0,1,2,3,4,5,6,7,8,9,10,11,12,13,14,15,16,17,18,19,20,21,32],[0,1,2,3,4,5,6,7,8,9,10,11,12,13,14,15,16,17,18,19,20,21],[0,1,2,3,4,5,6,7,8,9,10,11,12,13,14,15,16,17,18,19,20,21,32,33,34],[0,1,2,3,4,5,6,7,8,9,10,11,12,13,14,15,16,17,18,19,20,21,22,23,24,25,26,27,28,29,30,31,32,33,34,35],[0,1,2,3,4,5,6,7,8,9,10,11,12,13,14,15,16,17,18,19,20,21,22,23,24,25,26,27,28,29,30,31,32,33,34,35,36],[0,1,2,3,4,5,6,7,8,9,10,11,12,13,14,15,16,17,18,19,20,21,22,23,24,25,26,27,28,29,30,31,32,33,34,35,36,37]]) [jf 23 9 2,jk 24 23,jq 25 (.not 24),jm 26 25,jv 27 26 (.fa 0 2),jv
 28 26 (.ld true 3 27),jv 29 26 (.ld true 2 3),jv 30 26 (.call 85 true [28,29]),jv 31 26 (.fa 3 2),jv 32 26 (.ld false 1 31),jv 33 26 (.bin .gtr .i 30 32),jq 34 (.pick 26 kt 33),jm 35 34,jv 36 35 (.fa 0 2),jv 37 35 (.ld true 3 36),jv 38 35 (.ld true 2 3),jv 39 35 (.call 86 true [37,38]),jv 40 35 (.fa 3 2),jv 41 35 (.ld false 1 40),jv 42 35 (.bin .leq .i 39 41),jq 43 (.pick 35 kt 42),jm 44 43,jv 45 44 (.fa 0 2),jv 46 44 (.ld true 3 45),jv 47 44 (.fa 10 2),jv 48 44 (.fa 0 47),jv 49 44 (.ld false 1 48),jv 50 44 (.fa 10 2),jv 51 44 (.fa 1 50),jv 52 44 (.ld false 1 51),jv 53 44 (.fa 0 5),jv 54 44 (.ld false 1 53),jv 55 44 (.fa 0 2),jv 56 44 (.ld true 3 55),jv 57 44 (.ld true 2 3),jv 58 44 (.call 85 true [56,57]),jv 59 44 (.call 143 true [46,49,52,54,58]),jv 60 44 (.not 59),jq 61 (.pick 44 kt 60)] [2,3,5,61]) (.cond 61 (js [jm 4 kf] [4] .ret) .skip)) (.seq (.reg (some [[],[0],[0,1],[0,1,2],[0,1,2,3],[0,1,2,3,4],[0,1,2,3],[0,1,2,3,6],[0,1,2,3],[0,1,2,3,8],[0,1,2,3],[0,1,2,3,8,9,10],[0,1,2,3],[0,1,2,3,12],[0,1,2,3,12,13],[0,1,2,3],[0,1,2,3,15],[0,1,2,3,15,16],[0,1,2,3,4,5,6,7,8,9,10,11,12,13,14,15,16,17],[0,1,2,3,4,5,6,7,8,9,10,11,12,13,14,15,16,17,18],[0,1,2,3,4,5,6,7,8,9,10,11,12,13,14,15,16,17,18,19]]) [jf 62 14 2,jk 63 62,jq 64 (.not 63),jm 65 64,jv 66 65 (.fa 0 2),jv 67 65 (.ld true 3 66),jv 68 65 (.fa 1 5),jv 69 65 (.ld false 1 68),jv 70 65 (.fa 0 2),jv 71 65 (.ld true 3 70),jv 72 65 (.ld true 2 3),jv 73 65 (.call 86 true [71,72]),jv 74 65 (.fa 12 2),jv 75 65 (.fa 0 74),jv 76 65 (.ld false 1 75),jv 77 65 (.fa 12 2),jv 78 65 (.fa 1 77),jv 79 65 (.ld false 1 78),jv 80 65 (.call 143 true [67,69,73,76,79]),jq 81 (.pick 65 kt 80),jm 4 81] [4]) .ret))))
def Ht:List RV:=[.t 4]
def aq (g:G) (t:TE) (a0:Know) (a1:Trip):Option Bool:=
 br a0.known
 (
  br a0.rides
  (
   some (g.all [(g.eq a0.ride.Leg a1.Leg),(g.eq a0.ride.Day a1.Day)]))
  (
   some false))
 (
  gd (((0:Int)≤a1.Leg))<|
  gt a0.n.Legs (g.nat a1.Leg) fun x1=>
  br a0.free
  (
   cl (ci g t (Network.mk a0.n.Legs a0.n.Off a0.n.Change) a1) fun x2=>
   br (g.lt a0.at_ x2)
   (
    some false)
   (
    cl (eu g t (Network.mk a0.n.Legs a0.n.Off a0.n.Change) a1) fun x3=>
    br (g.le x3 a0.at_)
    (
     some false)
    (
     cl (ci g t (Network.mk a0.n.Legs a0.n.Off a0.n.Change) a1) fun x4=>
     cl (dO g t (Network.mk a0.n.Legs a0.n.Off a0.n.Change) a0.from_.Place a0.from_.At x1.From x4) fun x5=>
     br x5
     (
      br a0.more
      (
       cl (eu g t (Network.mk a0.n.Legs a0.n.Off a0.n.Change) a1) fun x6=>
       cl (dO g t (Network.mk a0.n.Legs a0.n.Off a0.n.Change) x1.To x6 a0.to.Place a0.to.At) fun x7=>
       some x7)
      (
       some true))
     (
      some false))))
  (
   some false))
theorem dC {g:G} {t:TE} {a0:Know} {a1:Trip} {r:Bool} (hg:g=G.real) (ht:t=TE.real) (h:aq g t a0 a1=some r):Fn Tryz.prog 101 [.g (Know.rs t a0),.g (Trip.rs t a1)] (.c (.r (.v (.bool r)))):=by
 obtain⟨X,hX⟩:=aE (.c (.r (.v (.bool r))):X);rw[←hX];refine az (rvs:=Ht) (j:=GH) Tryz.func101 rfl (by kernel_rfl) (nb rfl) (by kernel_rfl) ac ?_;intro g2 F hg2 hF;obtain rfl:g2=g:=hg2.unique.trans hg.symm;clear hg2;obtain⟨_,lt,le⟩:=g2;obtain⟨_⟩:=t
 obtain⟨⟨a0_n_Legs,a0_n_Off,a0_n_Change⟩,a0_at_,a0_known,a0_place,⟨a0_ride_Leg,a0_ride_Day⟩,a0_rides,a0_free,⟨a0_from__Place,a0_from__At⟩,⟨a0_to_Place,a0_to_At⟩,a0_more⟩:=a0;obtain⟨a1_Leg,a1_Day⟩:=a1;unfold aq at h;try dsimp only at h
 cbv
 cases hb1:a0_known
 rotate_left
 ·rw[ab hb1] at h;cbv
  cases hb2:a0_rides
  rotate_left
  ·rw[ab hb2] at h;cbv;iterate 4 try(rw[hb2];cbv)
   obtain rfl:=Option.some.inj h;exact ARet.mk trivial hX.symm
  rw[aa hb2] at h;cbv;iterate 4 try(rw[hb2];cbv)
  obtain rfl:=Option.some.inj h;exact ARet.mk trivial hX.symm
 rw[aa hb1] at h;cbv;obtain⟨hc1,h⟩:=aj h;refine AStep.mk hc1 ?_;cbv;obtain⟨x1,hx1,h⟩:=aH h;obtain⟨x1_From,x1_To,x1_Start,x1_Takes,x1_Days,x1_Room⟩:=x1;try dsimp only at h
 refine AGet.mk _ (aX hg ht hx1) ?_;cbv
 cases hb3:a0_free
 ·rw[aa hb3] at h;cbv;iterate 7 try(rw[hb3];cbv)
  obtain rfl:=Option.some.inj h;exact ARet.mk trivial hX.symm
 rw[ab hb3] at h;cbv;iterate 3 try(rw[hb3];cbv)
 obtain⟨x2,hx2,h⟩:=ae h;try dsimp only at h
 refine ACall.mk _ _ rfl (hF _ _ _ (cA hg ht hx2)) (.inl rfl) (nb rfl) ?_;cbv;iterate 4 try(rw[hb3];cbv)
 cases hb4:(lt a0_at_ x2)
 rotate_left
 ·rw[ab hb4] at h;cbv;iterate 7 try(rw[hb4];cbv)
  obtain rfl:=Option.some.inj h;exact ARet.mk trivial hX.symm
 rw[aa hb4] at h;cbv;iterate 3 try(rw[hb4];cbv)
 obtain⟨x3,hx3,h⟩:=ae h;try dsimp only at h
 refine ACall.mk _ _ rfl (hF _ _ _ (d9 hg ht hx3)) (.inl rfl) (nb rfl) ?_;cbv;iterate 4 try(rw[hb4];cbv)
 cases hb5:(le x3 a0_at_)
 rotate_left
 ·rw[ab hb5] at h;cbv;iterate 16 try(rw[hb5];cbv)
  obtain rfl:=Option.some.inj h;exact ARet.mk trivial hX.symm
 rw[aa hb5] at h;cbv;iterate 13 try(rw[hb5];cbv)
 obtain⟨x4,hx4,h⟩:=ae h;try dsimp only at h
 refine ACall.mk _ _ rfl (hF _ _ _ (cA hg ht hx4)) (.inl rfl) (nb rfl) ?_;cbv;try(rw[hb5];cbv)
 obtain⟨x5,hx5,h⟩:=ae h;try dsimp only at h
 refine ACall.mk _ _ rfl (hF _ _ _ (gO hg ht hx5)) (.inl rfl) (nb rfl) ?_;cbv;iterate 2 try(rw[hb5];cbv)
 cases hb6:x5
 ·rw[aa hb6] at h;cbv;obtain rfl:=Option.some.inj h;exact ARet.mk trivial hX.symm
 rw[ab hb6] at h;cbv
 cases hb7:a0_more
 ·rw[aa hb7] at h;cbv;iterate 15 try(rw[hb7];cbv)
  obtain rfl:=Option.some.inj h;exact ARet.mk trivial hX.symm
 rw[ab hb7] at h;cbv;iterate 7 try(rw[hb7];cbv)
 obtain⟨x6,hx6,h⟩:=ae h;try dsimp only at h
 refine ACall.mk _ _ rfl (hF _ _ _ (d9 hg ht hx6)) (.inl rfl) (nb rfl) ?_;cbv;iterate 7 try(rw[hb7];cbv)
 obtain⟨x7,hx7,h⟩:=ae h;try dsimp only at h
 refine ACall.mk _ _ rfl (hF _ _ _ (gO hg ht hx7)) (.inl rfl) (nb rfl) ?_;cbv;try(rw[hb7];cbv)
 obtain rfl:=Option.some.inj h;exact ARet.mk trivial hX.symm
def ir40:J:=js [jq 4 (.box 0),jq 8 (.alloc [.n 1,.n 2])] [1,2,3,4,8] (js [jq 16 (.bld [.n 1,.n 2] []),jq 9 (.alloc [.n 1,.n 2]),jp (.st 2 9 16)] [1,2,3,4,8,9] (.seq (js [jl 17 3 4,jc 18 54 [17],jq 19 (.not 18)] [1,2,3,4,8,9,19] (.cond 19 (js [jl 20 2 9,jp (.st 2 8 20)] [8] .ret) .skip)) (js [jl 21 3 4,jm 22 1,jm 23 2,jm 24 3,jc 25 98 [21,22,23,24],jq 10 (.alloc [.n 6,.n 1,.r (.v (.int .i64 0)),.r (.v (.int .i64 0)),.r (.v (.bool false)),.r (.v (.string .empty)),.r (.v (.int .i64 0)),.r (.v (.int .i64 0)),.r (.v (.bool false)),.r (.v (.bool false)),.r (.v (.string .empty)),.r (.v (.int .i64 0)),.r (.v (.string .empty)),.r (.v (.int .i64 0)),.r (.v (.bool false))]),jp (.st 15 10 25)] [4,8,9,10] (.seq (js [jl 26 3 4,jc 27 82 [26],jq 28 (.len false 27),jm 29 (ki 0)] [4,8,9,10,27,28,29] (.bl 0 (js [jb 30 .lss .i 29 28] [4,8,9,10,27,28,29,30] (.seq (.cond 30 .skip (.exit 0)) (.seq (.block 1 (js [ja 31 1 27 29,jk 32 31,jm 12 32] [4,8,9,10,12,27,28,29] (js [jl 33 15 10,jm 34 12,jc 35 99 [33,34]] [4,8,9,10,12,27,28,29,35] (.cond 35 (.reg none [jf 36 0 9,jk 37 36,jm 38 12,jq 39 (.bsl 1 [38]),jq 40 (.app 1 16 true 37 39),jf 41 0 9,jp (.st 1 41 40)] [4,8,9,10,27,28,29]) .skip)))) (.reg none [jb 42 .add .i 29 (ki 1),jm 29 42] [4,8,9,10,27,28,29])))))) (.seq (js [jm 13 (ki 0)] [4,8,9,10,13] (.bl 2 (.seq (js [jm 43 13,jb 44 .leq .i 43 (ki 60)] [4,8,9,10,13,44] (.cond 44 .skip (.exit 2))) (.seq (.block 3 (js [jf 47 0 4,jk 48 47,jq 49 (.len false 48),jm 50 (ki 0)] [4,8,9,10,13,49,50] (.bl 4 (js [jb 51 .lss .i 50 49] [4,8,9,10,13,49,50,51] (.seq (.cond 51 .skip (.exit 4)) (.seq (.block 5 (js [jm 52 50,jm 14 52] [4,8,9,10,13,14,49,50] (js [jm 53 14,jm 54 13,jq 55 (.bld [.r (.v (.int .i64 0)),.r (.v (.int .i64 0))] [(0,1,53),(1,1,54)]),jq 15 (.alloc [.r (.v (.int .i64 0)),.r (.v (.int .i64 0))]),jp (.st 2 15 55)] [4,8,9,10,13,14,15,49,50] (js [jf 56 1 9,jk 57 56,jq 58 (.len false 57),jb 59 .lss .i 58 (ki 60),jm 60 59,ju 61 60 (.ld true 3 4),ju 62 60 (.mv 14),ju 63 60 (.mv 13),ju 64 60 (.call 100 true [61,62,63]),jq 65 (.pick 60 64 kf),jm 66 65,ju 67 66 (.ld true 15 10),ju 68 66 (.ld true 2 15),ju 69 66 (.call 101 true [67,68]),jq 70 (.pick 66 69 kf)] [4,8,9,10,13,15,49,50,70] (.cond 70 (.reg none [jf 71 1 9,jk 72 71,jl 73 2 15,jq 74 (.bsl 2 [73]),jq 75 (.app 2 16 true 72 74),jf 76 1 9,jp (.st 1 76 75)] [4,8,9,10,13,49,50]) .skip))))) (.reg none [jb 77 .add .i 50 (ki 1),jm 50 77] [4,8,9,10,13,49,50]))))))) (.reg none [jm 45 13,jb 46 .add .i 45 (ki 1),jm 13 46] [4,8,9,10,13]))))) (js [jl 78 2 9,jp (.st 2 8 78)] [8] .ret))))))
def rv40:List RV:=[.c 8 true 2]
def bq (g:G) (t:TE) (a0:Network) (v2:Int) (x2:Know):List Leg→Int→List Trip→Option (List Trip)
 |[],v3,w3=>
  some w3
 |z3::ls3,v3,w3=>
  br (g.lt (g.int (g.dlen (t.d_Trip w3))) 60)
  (
   cl (jW g t a0 v3 v2) fun x6=>
   br x6
   (
    cl (aq g t (Know.mk (Network.mk x2.n.Legs x2.n.Off x2.n.Change) x2.at_ x2.known x2.place (Trip.mk x2.ride.Leg x2.ride.Day) x2.rides x2.free (Spot.mk x2.from_.Place x2.from_.At) (Spot.mk x2.to.Place x2.to.At) x2.more) (Trip.mk v3 v2)) fun x7=>
    br x7
    (
     lP ([(Trip.mk v3 v2)]) fun(l3:List Trip)=>
     gd (((w3.length+l3.length)*16≤70368744177664))<|
     lP (w3++l3) fun(l4:List Trip)=>
     bq g t a0 v2 x2 ls3 (g.wrap .i64 (g.add v3 1)) l4)
    (
     bq g t a0 v2 x2 ls3 (g.wrap .i64 (g.add v3 1)) w3))
   (
    bq g t a0 v2 x2 ls3 (g.wrap .i64 (g.add v3 1)) w3))
  (
   bq g t a0 v2 x2 ls3 (g.wrap .i64 (g.add v3 1)) w3)
def cJ (g:G) (t:TE) (a0:Network) (x2:Know):Nat→Int→List Trip→Option (List Trip)
 |0,v2,w2=>
  some w2
 |n2+1,v2,w2=>
  cl (bq g t a0 v2 x2 a0.Legs 0 w2) fun y2=>
  cJ g t a0 x2 n2 (g.wrap .i64 (g.add v2 1)) y2
def cf (g:G) (t:TE) (x2:Know) (x3:List ByteArray):Nat→Int→List ByteArray→Option (List ByteArray)
 |0,v1,w1=>
  some w1
 |n1+1,v1,w1=>
  gt x3 (g.nat v1) fun x4=>
  cl (au g t (Know.mk (Network.mk x2.n.Legs x2.n.Off x2.n.Change) x2.at_ x2.known x2.place (Trip.mk x2.ride.Leg x2.ride.Day) x2.rides x2.free (Spot.mk x2.from_.Place x2.from_.At) (Spot.mk x2.to.Place x2.to.At) x2.more) x4) fun x5=>
  br x5
  (
   lP ([x4]) fun(l1:List ByteArray)=>
   gd (((w1.length+l1.length)*16≤70368744177664))<|
   lP (w1++l1) fun(l2:List ByteArray)=>
   cf g t x2 x3 n1 (g.wrap .i64 (g.add v1 1)) l2)
  (
   cf g t x2 x3 n1 (g.wrap .i64 (g.add v1 1)) w1)
def gL (g:G) (t:TE) (a0:Network) (a1:List Scan) (a2:Int) (a3:Int):Option Belief:=
 cl (cN g t a0) fun x1=>
 br x1
 (
  cl (jK g t a0 a1 a2 a3) fun x2=>
  cl (dA g t a0) fun x3=>
  gd (((g.int (g.dlen (t.d_S x3)))≤9223372036854775807))<|
  cl (cf g t x2 x3 (aA 0 (g.int (g.dlen (t.d_S x3)))) 0 []) fun y1=>
  cl (cJ g t a0 x2 (df 0 60) 0 []) fun y3=>
  some (Belief.mk y1 y3))
 (
  some (Belief.mk [] []))
theorem mV {g:G} {t:TE} {a0:Network} {a1:List Scan} {a2:Int} {a3:Int} {r:Belief} (hg:g=G.real) (ht:t=TE.real) (h:gL g t a0 a1 a2 a3=some r):Fn Tryz.prog 40 [.g (Network.rs t a0),.c (.s 6 (t.r_Scan a1)),.c (.v (.int .i64 a2)),.c (.v (.int .i64 a3))] (.g (Belief.ds t r)):=by
 obtain⟨X,hX⟩:=aE (.g (Belief.ds t r):X);rw[←hX];refine az (rvs:=rv40) (j:=ir40) Tryz.func40 rfl (by kernel_rfl) (nb rfl) (by kernel_rfl) ac ?_;intro g2 F hg2 hF;obtain rfl:g2=g:=hg2.unique.trans hg.symm;clear hg2;obtain⟨wrap,lt,le,_,_,_,_,_,_,_,_,_,int,add,_,_,_,_,_,_,_,llen,_,_,dlen⟩:=g2;obtain⟨_,_,_,_,r_Leg,_,r_I64,_,_,d_Trip,_,_,_,d_S⟩:=t
 obtain⟨a0_Legs,a0_Off,a0_Change⟩:=a0;have hnil_Trip:d_Trip []=[]:=ma ht;have hnil_S:d_S []=[]:=yK ht;unfold gL at h;try dsimp only at h
 cbv;obtain⟨x1,hx1,h⟩:=ae h;try dsimp only at h
 refine ACall.mk _ _ rfl (hF _ _ _ (fh hg ht hx1)) (.inl rfl) (nb rfl) ?_;cbv
 cases hb1:x1
 ·rw[aa hb1] at h;cbv;obtain rfl:=Option.some.inj h;exact ARet.mk trivial (by rw[hX];first|rfl|(simp only[Trip.ds,Scan.ds,Leg.ds,Network.ds,Booking.ds,Belief.ds,Cur.ds,Spot.ds,Know.ds,hnil_S,hnil_Trip];try rfl))
 rw[ab hb1] at h;cbv;obtain⟨x2,hx2,h⟩:=ae h;obtain⟨⟨x2_n_Legs,x2_n_Off,x2_n_Change⟩,x2_at_,x2_known,x2_place,⟨x2_ride_Leg,x2_ride_Day⟩,x2_rides,x2_free,⟨x2_from__Place,x2_from__At⟩,⟨x2_to_Place,x2_to_At⟩,x2_more⟩:=x2;try dsimp only at h
 refine ACall.mk _ _ rfl (hF _ _ _ (we hg ht hx2)) (.inl rfl) (nb rfl) ?_;cbv;obtain⟨x3,hx3,h⟩:=ae h;try dsimp only at h
 refine ACall.mk _ _ rfl (hF _ _ _ (eT hg ht hx3)) (.inl rfl) (nb rfl) ?_;cbv;obtain⟨hB1,h⟩:=aj h;obtain⟨o1,ho1,h⟩:=ae h;try dsimp only at h
 try rw[hg] at ho1
 try rw[ht] at ho1
 refine ABL.mk {p:Nat×Int×List ByteArray//p.1=aA p.2.1 (int (dlen (d_S x3)))∧0≤p.2.1∧cf G.real TE.real (Know.mk (Network.mk x2_n_Legs x2_n_Off x2_n_Change) x2_at_ x2_known x2_place (Trip.mk x2_ride_Leg x2_ride_Day) x2_rides x2_free (Spot.mk x2_from__Place x2_from__At) (Spot.mk x2_to_Place x2_to_At) x2_more) x3 p.1 p.2.1 p.2.2=some o1} (fun⟨⟨n1,v1,w1⟩,_⟩=>({sl:=[(4,.c (.p 0 3 0 0)),(8,.c (.p 1 2 0 0)),(9,.c (.p 2 2 0 0)),(10,.c (.p 4 15 0 0)),(27,.c (.f 5 1 0 (dlen (d_S x3)))),(28,.c (.r (.v (.int .i64 (int (dlen (d_S x3))))))),(29,.c (.r (.v (.int .i64 v1))))],tab:=[(0,some (.foc 3 [] [.r (.s 6 (r_Leg a0_Legs)),.r (.s 1 (r_I64 a0_Off)),.r (.v (.int .i64 a0_Change))] [])),(1,some (.foc 2 [] [.n 1,.n 2] [])),(2,some (.foc 2 [] [.f 3 1 0 (dlen (d_S w1)),.n 2] [])),(3,some (.arr 1 (d_S w1))),(4,some (.foc 15 [] [.r (.s 6 (r_Leg x2_n_Legs)),.r (.s 1 (r_I64 x2_n_Off)),.r (.v (.int .i64 x2_n_Change)),.r (.v (.int .i64 x2_at_)),.r (.v (.bool x2_known)),.r (.v (.string x2_place)),.r (.v (.int .i64 x2_ride_Leg)),.r (.v (.int .i64 x2_ride_Day)),.r (.v (.bool x2_rides)),.r (.v (.bool x2_free)),.r (.v (.string x2_from__Place)),.r (.v (.int .i64 x2_from__At)),.r (.v (.string x2_to_Place)),.r (.v (.int .i64 x2_to_At)),.r (.v (.bool x2_more))] [])),(5,some (.arr 1 (d_S x3)))]}:St)) 6 (fun p=>p.1.1) ⟨(aA 0 (int (dlen (d_S x3))),0,[]),rfl,Int.le_refl _,ho1⟩ (List ByteArray) (fun y1=>({sl:=[(4,.c (.p 0 3 0 0)),(8,.c (.p 1 2 0 0)),(9,.c (.p 2 2 0 0)),(10,.c (.p 4 15 0 0))],tab:=[(0,some (.foc 3 [] [.r (.s 6 (r_Leg a0_Legs)),.r (.s 1 (r_I64 a0_Off)),.r (.v (.int .i64 a0_Change))] [])),(1,some (.foc 2 [] [.n 1,.n 2] [])),(2,some (.foc 2 [] [.f 3 1 0 (dlen (d_S y1)),.n 2] [])),(3,some (.arr 1 (d_S y1))),(4,some (.foc 15 [] [.r (.s 6 (r_Leg x2_n_Legs)),.r (.s 1 (r_I64 x2_n_Off)),.r (.v (.int .i64 x2_n_Change)),.r (.v (.int .i64 x2_at_)),.r (.v (.bool x2_known)),.r (.v (.string x2_place)),.r (.v (.int .i64 x2_ride_Leg)),.r (.v (.int .i64 x2_ride_Day)),.r (.v (.bool x2_rides)),.r (.v (.bool x2_free)),.r (.v (.string x2_from__Place)),.r (.v (.int .i64 x2_from__At)),.r (.v (.string x2_to_Place)),.r (.v (.int .i64 x2_to_At)),.r (.v (.bool x2_more))] []))]}:St)) 5 (fun y=>o1=y) ?_ ?_ ?_
 ·refine Wk.of [(0,some 0),(1,some 16),(2,some 48),(3,none),(4,some 208),(5,some 256)] rfl rfl ?_ ?_
  ·cbv;all_goals try rw[show dlen (d_S [])=0 from qP hg ht]
   all_goals try rw[hnil_S]
   all_goals exact⟨⟨_,rfl,rfl⟩,⟨_,rfl,rfl⟩,⟨_,rfl,rfl⟩,⟨_,rfl,rfl⟩,⟨_,rfl,rfl⟩,⟨_,rfl,rfl⟩,⟨_,rfl,rfl⟩,trivial⟩
  cbv;all_goals try rw[show dlen (d_S [])=0 from qP hg ht]
  all_goals try rw[hnil_S]
  all_goals exact⟨⟨_,rfl,_,rfl,rfl,rfl,rfl,trivial⟩,⟨_,rfl,_,rfl,rfl,rfl,trivial⟩,⟨_,rfl,_,rfl,⟨⟨_,rfl⟩,rfl,rfl⟩,rfl,trivial⟩,⟨_,rfl⟩,⟨_,rfl,_,rfl,rfl,rfl,rfl,rfl,rfl,rfl,rfl,rfl,rfl,rfl,rfl,rfl,rfl,rfl,rfl,trivial⟩,⟨_,rfl,rfl⟩,trivial⟩
 ·rintro⟨⟨n1,v1,w1⟩,hn1,hi1,h_1⟩ hq1;try dsimp only at hn1 hi1 h_1
  clear hq1;cbv;rcases n1 with _|n1
  ·have hb2:lt v1 (int (dlen (d_S x3)))=false:=cu hg hn1;rw[cf] at h_1;try rw[←hg] at h_1
   try rw[←ht] at h_1
   try dsimp only at h_1
   rw[hb2];cbv;refine⟨w1,Wk.of [(0,some 0),(1,some 1),(2,some 2),(3,some 3),(4,some 4)] rfl rfl ?_ ?_,(Option.some.inj h_1).symm⟩
   ·cbv;all_goals exact⟨⟨_,rfl,rfl⟩,⟨_,rfl,rfl⟩,⟨_,rfl,rfl⟩,⟨_,rfl,rfl⟩,trivial⟩
   cbv;all_goals exact⟨⟨_,rfl,_,rfl,rfl,rfl,rfl,trivial⟩,⟨_,rfl,_,rfl,rfl,rfl,trivial⟩,⟨_,rfl,_,rfl,rfl,rfl,trivial⟩,⟨_,rfl,rfl⟩,⟨_,rfl,_,rfl,rfl,rfl,rfl,rfl,rfl,rfl,rfl,rfl,rfl,rfl,rfl,rfl,rfl,rfl,rfl,trivial⟩,trivial⟩
  have hb2:lt v1 (int (dlen (d_S x3)))=true:=dj hg hn1;have hl1:=gk hn1;have hs1:=ef hg hn1 hi1 hB1 (by decide);rw[cf] at h_1;try rw[←hg] at h_1
  try rw[←ht] at h_1
  try dsimp only at h_1
  rw[hb2];cbv;refine AStep.mk (mL hg hi1 hl1) ?_;cbv;obtain⟨x4,hx4,h_1⟩:=aH h_1;try dsimp only at h_1
  refine AGet.mk _ (ky hg ht hx4) ?_;cbv;obtain⟨x5,hx5,h_1⟩:=ae h_1;try dsimp only at h_1
  refine ACall.mk _ _ rfl (hF _ _ _ (dI hg ht hx5)) (.inl rfl) (nb rfl) ?_;cbv
  cases hb3:x5
  ·rw[aa hb3] at h_1;cbv;try rw[hg] at h_1
   try rw[ht] at h_1
   refine⟨⟨(n1,(wrap .i64 (add v1 1)),w1),hs1.1,hs1.2,h_1⟩,Wk.of [(0,some 0),(1,some 1),(2,some 2),(3,some 3),(4,some 4),(5,some 5)] rfl rfl ?_ ?_,Nat.lt_succ_self _⟩
   ·cbv;all_goals exact⟨⟨_,rfl,rfl⟩,⟨_,rfl,rfl⟩,⟨_,rfl,rfl⟩,⟨_,rfl,rfl⟩,⟨_,rfl,rfl⟩,⟨_,rfl,rfl⟩,⟨_,rfl,rfl⟩,trivial⟩
   cbv;all_goals exact⟨⟨_,rfl,_,rfl,rfl,rfl,rfl,trivial⟩,⟨_,rfl,_,rfl,rfl,rfl,trivial⟩,⟨_,rfl,_,rfl,rfl,rfl,trivial⟩,⟨_,rfl,rfl⟩,⟨_,rfl,_,rfl,rfl,rfl,rfl,rfl,rfl,rfl,rfl,rfl,rfl,rfl,rfl,rfl,rfl,rfl,rfl,trivial⟩,⟨_,rfl,rfl⟩,trivial⟩
  rw[ab hb3] at h_1;cbv;obtain⟨l1,hl1,h_1⟩:=ag h_1;try dsimp only at h_1
  refine ANew.mk (d_S l1) (dlen (d_S l1)) (by rw[←hl1];exact iU hg ht [x4]) (by rw[←hl1];exact gw hg ht [x4]) ?_;cbv;obtain⟨hc1,h_1⟩:=aj h_1;refine AStep.mk ⟨⟨rfl,(ap hg ht _)⟩,(dw hg ht (ap hg ht _) rfl hc1)⟩ ?_;cbv;obtain⟨l2,hl2,h_1⟩:=ag h_1;try dsimp only at h_1
  refine ANew.mk (d_S l2) (dlen (d_S l2)) (by rw[←hl2];exact iZ hg ht (ap hg ht _) rfl) (by rw[←hl2];exact gf hg ht (ap hg ht _) rfl) ?_;cbv;try rw[hg] at h_1
  try rw[ht] at h_1
  refine⟨⟨(n1,(wrap .i64 (add v1 1)),l2),hs1.1,hs1.2,h_1⟩,Wk.of [(0,some 0),(1,some 1),(2,some 2),(3,some 182),(4,some 4),(5,some 5)] rfl rfl ?_ ?_,Nat.lt_succ_self _⟩
  ·cbv;all_goals exact⟨⟨_,rfl,rfl⟩,⟨_,rfl,rfl⟩,⟨_,rfl,rfl⟩,⟨_,rfl,rfl⟩,⟨_,rfl,rfl⟩,⟨_,rfl,rfl⟩,⟨_,rfl,rfl⟩,trivial⟩
  cbv;all_goals exact⟨⟨_,rfl,_,rfl,rfl,rfl,rfl,trivial⟩,⟨_,rfl,_,rfl,rfl,rfl,trivial⟩,⟨_,rfl,_,rfl,rfl,rfl,trivial⟩,⟨_,rfl,rfl⟩,⟨_,rfl,_,rfl,rfl,rfl,rfl,rfl,rfl,rfl,rfl,rfl,rfl,rfl,rfl,rfl,rfl,rfl,rfl,trivial⟩,⟨_,rfl,rfl⟩,trivial⟩
 rintro y1 hy1;replace hy1:=hy1.symm;subst hy1;try dsimp only[lr,lrL,lrp,aW] at h
 cbv;obtain⟨o2,ho2,h⟩:=ae h;try dsimp only at h
 try rw[hg] at ho2
 try rw[ht] at ho2
 refine ABL.mk {p:Nat×Int×List Trip//p.1=df p.2.1 60∧0≤p.2.1∧cJ G.real TE.real (Network.mk a0_Legs a0_Off a0_Change) (Know.mk (Network.mk x2_n_Legs x2_n_Off x2_n_Change) x2_at_ x2_known x2_place (Trip.mk x2_ride_Leg x2_ride_Day) x2_rides x2_free (Spot.mk x2_from__Place x2_from__At) (Spot.mk x2_to_Place x2_to_At) x2_more) p.1 p.2.1 p.2.2=some o2} (fun⟨⟨n2,v2,w2⟩,_⟩=>({sl:=[(4,.c (.p 0 3 0 0)),(8,.c (.p 1 2 0 0)),(9,.c (.p 2 2 0 0)),(10,.c (.p 5 15 0 0)),(13,.c (.r (.v (.int .i64 v2))))],tab:=[(0,some (.foc 3 [] [.r (.s 6 (r_Leg a0_Legs)),.r (.s 1 (r_I64 a0_Off)),.r (.v (.int .i64 a0_Change))] [])),(1,some (.foc 2 [] [.n 1,.n 2] [])),(2,some (.foc 2 [] [.f 3 1 0 (dlen (d_S y1)),.f 4 2 0 (dlen (d_Trip w2))] [])),(3,some (.arr 1 (d_S y1))),(4,some (.arr 2 (d_Trip w2))),(5,some (.foc 15 [] [.r (.s 6 (r_Leg x2_n_Legs)),.r (.s 1 (r_I64 x2_n_Off)),.r (.v (.int .i64 x2_n_Change)),.r (.v (.int .i64 x2_at_)),.r (.v (.bool x2_known)),.r (.v (.string x2_place)),.r (.v (.int .i64 x2_ride_Leg)),.r (.v (.int .i64 x2_ride_Day)),.r (.v (.bool x2_rides)),.r (.v (.bool x2_free)),.r (.v (.string x2_from__Place)),.r (.v (.int .i64 x2_from__At)),.r (.v (.string x2_to_Place)),.r (.v (.int .i64 x2_to_At)),.r (.v (.bool x2_more))] []))]}:St)) 6 (fun p=>p.1.1) ⟨(df 0 60,0,[]),rfl,Int.le_refl _,ho2⟩ (List Trip) (fun y3=>({sl:=[(8,.c (.p 0 2 0 0)),(9,.c (.p 1 2 0 0))],tab:=[(0,some (.foc 2 [] [.n 1,.n 2] [])),(1,some (.foc 2 [] [.f 2 1 0 (dlen (d_S y1)),.f 3 2 0 (dlen (d_Trip y3))] [])),(2,some (.arr 1 (d_S y1))),(3,some (.arr 2 (d_Trip y3)))]}:St)) 4 (fun y=>o2=y) ?_ ?_ ?_
 ·refine Wk.of [(0,some 0),(1,some 1),(2,some 2),(3,some 3),(4,none),(5,some 4)] rfl rfl ?_ ?_
  ·cbv;all_goals try rw[show dlen (d_Trip [])=0 from lQ hg ht]
   all_goals try rw[hnil_Trip]
   all_goals exact⟨⟨_,rfl,rfl⟩,⟨_,rfl,rfl⟩,⟨_,rfl,rfl⟩,⟨_,rfl,rfl⟩,⟨_,rfl,rfl⟩,trivial⟩
  cbv;all_goals try rw[show dlen (d_Trip [])=0 from lQ hg ht]
  all_goals try rw[hnil_Trip]
  all_goals exact⟨⟨_,rfl,_,rfl,rfl,rfl,rfl,trivial⟩,⟨_,rfl,_,rfl,rfl,rfl,trivial⟩,⟨_,rfl,_,rfl,rfl,⟨⟨_,rfl⟩,rfl,rfl⟩,trivial⟩,⟨_,rfl,rfl⟩,⟨_,rfl⟩,⟨_,rfl,_,rfl,rfl,rfl,rfl,rfl,rfl,rfl,rfl,rfl,rfl,rfl,rfl,rfl,rfl,rfl,rfl,trivial⟩,trivial⟩
 ·rintro⟨⟨n2,v2,w2⟩,hn2,hi2,h_2⟩ hq2;try dsimp only at hn2 hi2 h_2
  clear hq2;cbv;rcases n2 with _|n2
  ·have hb4:le v2 60=false:=jR hg hn2;rw[cJ] at h_2;try rw[←hg] at h_2
   try rw[←ht] at h_2
   try dsimp only at h_2
   rw[hb4];cbv;refine⟨w2,Wk.of [(0,some 1),(1,some 2),(2,some 3),(3,some 4)] rfl rfl ?_ ?_,(Option.some.inj h_2).symm⟩
   ·cbv;all_goals exact⟨⟨_,rfl,rfl⟩,⟨_,rfl,rfl⟩,trivial⟩
   cbv;all_goals exact⟨⟨_,rfl,_,rfl,rfl,rfl,trivial⟩,⟨_,rfl,_,rfl,rfl,rfl,trivial⟩,⟨_,rfl,rfl⟩,⟨_,rfl,rfl⟩,trivial⟩
  have hb4:le v2 60=true:=kL hg hn2;have hl2:=pZ hn2;have hs2:=mW hg hn2 hi2 (by decide) (by decide);rw[cJ] at h_2;try rw[←hg] at h_2
  try rw[←ht] at h_2
  try dsimp only at h_2
  rw[hb4];cbv;obtain⟨o3,ho3,h_2⟩:=ae h_2;try dsimp only at h_2
  try rw[hg] at ho3
  try rw[ht] at ho3
  refine ABL.mk {p:Nat×Int×List Trip//p.1≤a0_Legs.length∧p.2.1=((p.1:Nat):Int)∧bq G.real TE.real (Network.mk a0_Legs a0_Off a0_Change) v2 (Know.mk (Network.mk x2_n_Legs x2_n_Off x2_n_Change) x2_at_ x2_known x2_place (Trip.mk x2_ride_Leg x2_ride_Day) x2_rides x2_free (Spot.mk x2_from__Place x2_from__At) (Spot.mk x2_to_Place x2_to_At) x2_more) (List.drop p.1 a0_Legs) p.2.1 p.2.2=some o3} (fun⟨⟨k3,v3,w3⟩,_⟩=>({sl:=[(4,.c (.p 0 3 0 0)),(8,.c (.p 1 2 0 0)),(9,.c (.p 2 2 0 0)),(10,.c (.p 5 15 0 0)),(13,.c (.r (.v (.int .i64 v2)))),(49,.c (.r (.v (.int .i64 (llen (r_Leg a0_Legs)))))),(50,.c (.r (.v (.int .i64 v3))))],tab:=[(0,some (.foc 3 [] [.r (.s 6 (r_Leg a0_Legs)),.r (.s 1 (r_I64 a0_Off)),.r (.v (.int .i64 a0_Change))] [])),(1,some (.foc 2 [] [.n 1,.n 2] [])),(2,some (.foc 2 [] [.f 3 1 0 (dlen (d_S y1)),.f 4 2 0 (dlen (d_Trip w3))] [])),(3,some (.arr 1 (d_S y1))),(4,some (.arr 2 (d_Trip w3))),(5,some (.foc 15 [] [.r (.s 6 (r_Leg x2_n_Legs)),.r (.s 1 (r_I64 x2_n_Off)),.r (.v (.int .i64 x2_n_Change)),.r (.v (.int .i64 x2_at_)),.r (.v (.bool x2_known)),.r (.v (.string x2_place)),.r (.v (.int .i64 x2_ride_Leg)),.r (.v (.int .i64 x2_ride_Day)),.r (.v (.bool x2_rides)),.r (.v (.bool x2_free)),.r (.v (.string x2_from__Place)),.r (.v (.int .i64 x2_from__At)),.r (.v (.string x2_to_Place)),.r (.v (.int .i64 x2_to_At)),.r (.v (.bool x2_more))] []))]}:St)) 6 (fun p=>a0_Legs.length-p.1.1) ⟨(0,0,w2),Nat.zero_le _,rfl,ho3⟩ (List Trip) (fun y2=>({sl:=[(4,.c (.p 0 3 0 0)),(8,.c (.p 1 2 0 0)),(9,.c (.p 2 2 0 0)),(10,.c (.p 5 15 0 0)),(13,.c (.r (.v (.int .i64 v2))))],tab:=[(0,some (.foc 3 [] [.r (.s 6 (r_Leg a0_Legs)),.r (.s 1 (r_I64 a0_Off)),.r (.v (.int .i64 a0_Change))] [])),(1,some (.foc 2 [] [.n 1,.n 2] [])),(2,some (.foc 2 [] [.f 3 1 0 (dlen (d_S y1)),.f 4 2 0 (dlen (d_Trip y2))] [])),(3,some (.arr 1 (d_S y1))),(4,some (.arr 2 (d_Trip y2))),(5,some (.foc 15 [] [.r (.s 6 (r_Leg x2_n_Legs)),.r (.s 1 (r_I64 x2_n_Off)),.r (.v (.int .i64 x2_n_Change)),.r (.v (.int .i64 x2_at_)),.r (.v (.bool x2_known)),.r (.v (.string x2_place)),.r (.v (.int .i64 x2_ride_Leg)),.r (.v (.int .i64 x2_ride_Day)),.r (.v (.bool x2_rides)),.r (.v (.bool x2_free)),.r (.v (.string x2_from__Place)),.r (.v (.int .i64 x2_from__At)),.r (.v (.string x2_to_Place)),.r (.v (.int .i64 x2_to_At)),.r (.v (.bool x2_more))] []))]}:St)) 6 (fun y=>o3=y) ?_ ?_ ?_
  ·refine Wk.of [(0,some 0),(1,some 1),(2,some 2),(3,some 3),(4,some 4),(5,some 5)] rfl rfl ?_ ?_
   ·cbv;all_goals exact⟨⟨_,rfl,rfl⟩,⟨_,rfl,rfl⟩,⟨_,rfl,rfl⟩,⟨_,rfl,rfl⟩,⟨_,rfl,rfl⟩,⟨_,rfl,rfl⟩,⟨_,rfl,rfl⟩,trivial⟩
   cbv;all_goals exact⟨⟨_,rfl,_,rfl,rfl,rfl,rfl,trivial⟩,⟨_,rfl,_,rfl,rfl,rfl,trivial⟩,⟨_,rfl,_,rfl,rfl,rfl,trivial⟩,⟨_,rfl,rfl⟩,⟨_,rfl,rfl⟩,⟨_,rfl,_,rfl,rfl,rfl,rfl,rfl,rfl,rfl,rfl,rfl,rfl,rfl,rfl,rfl,rfl,rfl,rfl,trivial⟩,trivial⟩
  ·rintro⟨⟨k3,v3,w3⟩,hk3,hi3,h_3⟩ hq3;have hm3:=(hq3.2.2.1 0 _ _ _ _ 0 _ _ rfl rfl);try dsimp only at hk3 hi3 h_3
   clear hq3;cbv
   by_cases hc3_:k3<a0_Legs.length
   ·have hb5:lt v3 (llen (r_Leg a0_Legs))=true:=dg hg ht hi3 hc3_;have hs3:=fG hg ht hi3 hc3_ hm3;obtain⟨z3,hz3⟩:=aD hc3_;rw[aw hz3] at h_3;rw[bq] at h_3;obtain⟨z3_From,z3_To,z3_Start,z3_Takes,z3_Days,z3_Room⟩:=z3;try rw[←hg] at h_3
    try rw[←ht] at h_3
    try dsimp only at h_3
    rw[hb5];cbv
    cases hb6:(lt (int (dlen (d_Trip w3))) 60)
    ·rw[aa hb6] at h_3;cbv;iterate 4 try(rw[hb6];cbv)
     try rw[hg] at h_3
     try rw[ht] at h_3
     refine⟨⟨(k3+1,(wrap .i64 (add v3 1)),w3),hc3_,hs3,h_3⟩,Wk.of [(0,some 0),(1,some 1),(2,some 2),(3,some 3),(4,some 4),(5,some 5)] rfl rfl ?_ ?_,aJ hc3_⟩
     ·cbv;all_goals exact⟨⟨_,rfl,rfl⟩,⟨_,rfl,rfl⟩,⟨_,rfl,rfl⟩,⟨_,rfl,rfl⟩,⟨_,rfl,rfl⟩,⟨_,rfl,rfl⟩,⟨_,rfl,rfl⟩,trivial⟩
     cbv;all_goals exact⟨⟨_,rfl,_,rfl,rfl,rfl,rfl,trivial⟩,⟨_,rfl,_,rfl,rfl,rfl,trivial⟩,⟨_,rfl,_,rfl,rfl,rfl,trivial⟩,⟨_,rfl,rfl⟩,⟨_,rfl,rfl⟩,⟨_,rfl,_,rfl,rfl,rfl,rfl,rfl,rfl,rfl,rfl,rfl,rfl,rfl,rfl,rfl,rfl,rfl,rfl,trivial⟩,trivial⟩
    rw[ab hb6] at h_3;cbv;iterate 3 try(rw[hb6];cbv)
    obtain⟨x6,hx6,h_3⟩:=ae h_3;try dsimp only at h_3
    refine ACall.mk _ _ rfl (hF _ _ _ (ny hg ht hx6)) (.inl rfl) (nb rfl) ?_;cbv;try(rw[hb6];cbv)
    cases hb7:x6
    ·rw[aa hb7] at h_3;cbv;iterate 3 try(rw[hb7];cbv)
     try rw[hg] at h_3
     try rw[ht] at h_3
     refine⟨⟨(k3+1,(wrap .i64 (add v3 1)),w3),hc3_,hs3,h_3⟩,Wk.of [(0,some 0),(1,some 1),(2,some 2),(3,some 3),(4,some 4),(5,some 5)] rfl rfl ?_ ?_,aJ hc3_⟩
     ·cbv;all_goals exact⟨⟨_,rfl,rfl⟩,⟨_,rfl,rfl⟩,⟨_,rfl,rfl⟩,⟨_,rfl,rfl⟩,⟨_,rfl,rfl⟩,⟨_,rfl,rfl⟩,⟨_,rfl,rfl⟩,trivial⟩
     cbv;all_goals exact⟨⟨_,rfl,_,rfl,rfl,rfl,rfl,trivial⟩,⟨_,rfl,_,rfl,rfl,rfl,trivial⟩,⟨_,rfl,_,rfl,rfl,rfl,trivial⟩,⟨_,rfl,rfl⟩,⟨_,rfl,rfl⟩,⟨_,rfl,_,rfl,rfl,rfl,rfl,rfl,rfl,rfl,rfl,rfl,rfl,rfl,rfl,rfl,rfl,rfl,rfl,trivial⟩,trivial⟩
    rw[ab hb7] at h_3;cbv;iterate 2 try(rw[hb7];cbv)
    obtain⟨x7,hx7,h_3⟩:=ae h_3;try dsimp only at h_3
    refine ACall.mk _ _ rfl (hF _ _ _ (dC hg ht hx7)) (.inl rfl) (nb rfl) ?_;cbv;try(rw[hb7];cbv)
    cases hb8:x7
    ·rw[aa hb8] at h_3;cbv;try rw[hg] at h_3
     try rw[ht] at h_3
     refine⟨⟨(k3+1,(wrap .i64 (add v3 1)),w3),hc3_,hs3,h_3⟩,Wk.of [(0,some 0),(1,some 1),(2,some 2),(3,some 3),(4,some 4),(5,some 5)] rfl rfl ?_ ?_,aJ hc3_⟩
     ·cbv;all_goals exact⟨⟨_,rfl,rfl⟩,⟨_,rfl,rfl⟩,⟨_,rfl,rfl⟩,⟨_,rfl,rfl⟩,⟨_,rfl,rfl⟩,⟨_,rfl,rfl⟩,⟨_,rfl,rfl⟩,trivial⟩
     cbv;all_goals exact⟨⟨_,rfl,_,rfl,rfl,rfl,rfl,trivial⟩,⟨_,rfl,_,rfl,rfl,rfl,trivial⟩,⟨_,rfl,_,rfl,rfl,rfl,trivial⟩,⟨_,rfl,rfl⟩,⟨_,rfl,rfl⟩,⟨_,rfl,_,rfl,rfl,rfl,rfl,rfl,rfl,rfl,rfl,rfl,rfl,rfl,rfl,rfl,rfl,rfl,rfl,trivial⟩,trivial⟩
    rw[ab hb8] at h_3;cbv;obtain⟨l3,hl3,h_3⟩:=ag h_3;try dsimp only at h_3
    refine ANew.mk (d_Trip l3) (dlen (d_Trip l3)) (by rw[←hl3];exact g7 hg ht [(Trip.mk v3 v2)]) (by rw[←hl3];exact fH hg ht [(Trip.mk v3 v2)]) ?_;cbv;obtain⟨hc2,h_3⟩:=aj h_3;refine AStep.mk ⟨⟨rfl,(aV hg ht _)⟩,(iY hg ht (aV hg ht _) rfl hc2)⟩ ?_;cbv;obtain⟨l4,hl4,h_3⟩:=ag h_3;try dsimp only at h_3
    refine ANew.mk (d_Trip l4) (dlen (d_Trip l4)) (by rw[←hl4];exact mU hg ht (aV hg ht _) rfl) (by rw[←hl4];exact lx hg ht (aV hg ht _) rfl) ?_;cbv;try rw[hg] at h_3
    try rw[ht] at h_3
    refine⟨⟨(k3+1,(wrap .i64 (add v3 1)),l4),hc3_,hs3,h_3⟩,Wk.of [(0,some 0),(1,some 1),(2,some 2),(3,some 3),(4,some 438),(5,some 5)] rfl rfl ?_ ?_,aJ hc3_⟩
    ·cbv;all_goals exact⟨⟨_,rfl,rfl⟩,⟨_,rfl,rfl⟩,⟨_,rfl,rfl⟩,⟨_,rfl,rfl⟩,⟨_,rfl,rfl⟩,⟨_,rfl,rfl⟩,⟨_,rfl,rfl⟩,trivial⟩
    cbv;all_goals exact⟨⟨_,rfl,_,rfl,rfl,rfl,rfl,trivial⟩,⟨_,rfl,_,rfl,rfl,rfl,trivial⟩,⟨_,rfl,_,rfl,rfl,rfl,trivial⟩,⟨_,rfl,rfl⟩,⟨_,rfl,rfl⟩,⟨_,rfl,_,rfl,rfl,rfl,rfl,rfl,rfl,rfl,rfl,rfl,rfl,rfl,rfl,rfl,rfl,rfl,rfl,trivial⟩,trivial⟩
   have hb5:lt v3 (llen (r_Leg a0_Legs))=false:=cH hg ht hi3 hc3_;rw[List.drop_of_length_le (Nat.le_of_not_lt hc3_)] at h_3;rw[bq] at h_3;try rw[←hg] at h_3
   try rw[←ht] at h_3
   try dsimp only at h_3
   rw[hb5];cbv;refine⟨w3,Wk.of [(0,some 0),(1,some 1),(2,some 2),(3,some 3),(4,some 4),(5,some 5)] rfl rfl ?_ ?_,(Option.some.inj h_3).symm⟩
   ·cbv;all_goals exact⟨⟨_,rfl,rfl⟩,⟨_,rfl,rfl⟩,⟨_,rfl,rfl⟩,⟨_,rfl,rfl⟩,⟨_,rfl,rfl⟩,trivial⟩
   cbv;all_goals exact⟨⟨_,rfl,_,rfl,rfl,rfl,rfl,trivial⟩,⟨_,rfl,_,rfl,rfl,rfl,trivial⟩,⟨_,rfl,_,rfl,rfl,rfl,trivial⟩,⟨_,rfl,rfl⟩,⟨_,rfl,rfl⟩,⟨_,rfl,_,rfl,rfl,rfl,rfl,rfl,rfl,rfl,rfl,rfl,rfl,rfl,rfl,rfl,rfl,rfl,rfl,trivial⟩,trivial⟩
  rintro y2 hy3;replace hy3:=hy3.symm;subst hy3;try dsimp only[lr,lrL,lrp,aW] at h_2
  cbv;try rw[hg] at h_2
  try rw[ht] at h_2
  refine⟨⟨(n2,(wrap .i64 (add v2 1)),y2),hs2.1,hs2.2,h_2⟩,Wk.of [(0,some 0),(1,some 1),(2,some 2),(3,some 3),(4,some 4),(5,some 5)] rfl rfl ?_ ?_,Nat.lt_succ_self _⟩
  ·cbv;all_goals exact⟨⟨_,rfl,rfl⟩,⟨_,rfl,rfl⟩,⟨_,rfl,rfl⟩,⟨_,rfl,rfl⟩,⟨_,rfl,rfl⟩,trivial⟩
  cbv;all_goals exact⟨⟨_,rfl,_,rfl,rfl,rfl,rfl,trivial⟩,⟨_,rfl,_,rfl,rfl,rfl,trivial⟩,⟨_,rfl,_,rfl,rfl,rfl,trivial⟩,⟨_,rfl,rfl⟩,⟨_,rfl,rfl⟩,⟨_,rfl,_,rfl,rfl,rfl,rfl,rfl,rfl,rfl,rfl,rfl,rfl,rfl,rfl,rfl,rfl,rfl,rfl,trivial⟩,trivial⟩
 rintro y3 hy2;replace hy2:=hy2.symm;subst hy2;try dsimp only[lr,lrL,lrp,aW] at h
 cbv;obtain rfl:=Option.some.inj h;exact ARet.mk ⟨⟨rfl,(ap hg ht _)⟩,⟨rfl,(aV hg ht _)⟩⟩ hX.symm
def ir43:J:=js [jm 4 (ki 0)] [0,1] (.seq (js [jm 5 (ki 0)] [0,1,5] (.bl 0 (.seq (js [jm 6 5,jm 7 0,jq 8 (.len false 7),jb 9 .lss .i 6 8] [0,1,5,9] (.cond 9 .skip (.exit 0))) (.seq (.block 1 (js [jm 12 0,jm 13 5,ja 14 1 12 13,jk 15 14,jm 16 1,jb 17 .eql .s 15 16] [0,1,5,17] (.cond 17 (js [jm 18 5,jm 4 18] [4] .ret) .skip))) (.reg none [jm 10 5,jb 11 .add .i 10 (ki 1),jm 5 11] [0,1,5]))))) (js [jq 4 (.mv (.k (V.i (-1))))] [4] .ret))
def rv43:List RV:=[.t 4]
def fA (g:G) (t:TE) (a1:ByteArray):List ByteArray→Int→LR Int Unit
 |[],v1=>
  (LR.out ())
 |z1::ls1,v1=>
  br (g.seq z1 a1)
  (
   (LR.ret v1))
  (
   fA g t a1 ls1 (g.wrap .i64 (g.add v1 1)))
def m7 (g:G) (t:TE) (a0:List ByteArray) (a1:ByteArray):Int:=
 lP (fA g t a1 a0 0) fun o1=>lrp o1 fun y1=>
 (-1)
theorem Ab {g:G} {t:TE} {a0:List ByteArray} {a1:ByteArray} {r:Int} (hg:g=G.real) (ht:t=TE.real) (h:m7 g t a0 a1=r):Fn Tryz.prog 43 [.c (.s 1 (t.r_S a0)),.c (.v (.string a1))] (.c (.r (.v (.int .i64 r)))):=by
 obtain⟨X,hX⟩:=aE (.c (.r (.v (.int .i64 r))):X);rw[←hX];refine az (rvs:=rv43) (j:=ir43) Tryz.func43 rfl (by kernel_rfl) (nb rfl) (by kernel_rfl) ac ?_;intro g2 F hg2 hF;obtain rfl:g2=g:=hg2.unique.trans hg.symm;clear hg2;obtain⟨wrap,lt,_,_,_,_,_,_,_,_,_,_,_,add,_,_,_,seq,_,_,_,llen⟩:=g2;obtain⟨_,_,_,_,_,_,_,_,_,_,_,_,r_S⟩:=t
 unfold m7 at h;try dsimp only at h
 cbv;obtain⟨o1,ho1,h⟩:=ag h;try dsimp only at h
 try rw[hg] at ho1
 try rw[ht] at ho1
 refine ABL.mk {p:Nat×Int//p.1≤a0.length∧p.2=((p.1:Nat):Int)∧fA G.real TE.real a1 (List.drop p.1 a0) p.2=o1} (fun⟨⟨k1,v1⟩,_⟩=>({sl:=[(0,.c (.r (.s 1 (r_S a0)))),(1,.c (.r (.v (.string a1)))),(5,.c (.r (.v (.int .i64 v1))))],tab:=[]}:St)) 0 (fun p=>a0.length-p.1.1) ⟨(0,0),Nat.zero_le _,rfl,ho1⟩ (Unit) (fun _=>({sl:=[],tab:=[]}:St)) 0 (fun y=>o1=LR.out y) ?_ ?_ ?_
 ·refine Wk.of [] rfl rfl ?_ ?_
  ·cbv;all_goals exact⟨⟨_,rfl,rfl⟩,⟨_,rfl,rfl⟩,⟨_,rfl,rfl⟩,trivial⟩
  cbv;all_goals exact trivial
 ·rintro⟨⟨k1,v1⟩,hk1,hi1,h_1⟩ hq1;have hm1:=(hq1.1 0 _ _ rfl);try dsimp only at hk1 hi1 h_1
  clear hq1;cbv
  by_cases hc1_:k1<a0.length
  ·have hb1:lt v1 (llen (r_S a0))=true:=iC hg ht hi1 hc1_;have hs1:=m9 hg ht hi1 hc1_ hm1;obtain⟨z1,hz1⟩:=aD hc1_;rw[aw hz1] at h_1;rw[fA] at h_1;try rw[←hg] at h_1
   try rw[←ht] at h_1
   try dsimp only at h_1
   rw[hb1];cbv;refine AStep.mk (fB hi1) ?_;cbv;refine AGet.mk _ (mO hg ht hi1 hz1) ?_;cbv
   cases hb2:(seq z1 a1)
   rotate_left
   ·rw[ab hb2] at h_1;cbv;subst h_1;try dsimp only[lr,lrL,lrp,aW] at h
    subst h;exact ARet.mk trivial hX.symm
   rw[aa hb2] at h_1;cbv;try rw[hg] at h_1
   try rw[ht] at h_1
   refine⟨⟨(k1+1,(wrap .i64 (add v1 1))),hc1_,hs1,h_1⟩,Wk.of [] rfl rfl ?_ ?_,aJ hc1_⟩
   ·cbv;all_goals exact⟨⟨_,rfl,rfl⟩,⟨_,rfl,rfl⟩,⟨_,rfl,rfl⟩,trivial⟩
   cbv;all_goals exact trivial
  have hb1:lt v1 (llen (r_S a0))=false:=g0 hg ht hi1 hc1_;rw[List.drop_of_length_le (Nat.le_of_not_lt hc1_)] at h_1;rw[fA] at h_1;try rw[←hg] at h_1
  try rw[←ht] at h_1
  try dsimp only at h_1
  rw[hb1];cbv;refine⟨(),Wk.of [] rfl rfl ?_ ?_,h_1.symm⟩
  ·cbv;all_goals exact trivial
  cbv;all_goals exact trivial
 rintro _ hy1;replace hy1:=hy1.symm;subst hy1;try dsimp only[lr,lrL,lrp,aW] at h
 cbv;subst h;exact ARet.mk trivial hX.symm
def ir7:J:=js [jm 2 kf] [0] (.seq (js [jm 19 0,jc 20 11 [19]] [0,20] (.cond 20 (js [jm 2 kt] [2] .ret) .skip)) (js [jm 22 0,jq 23 (.call 12 false [22]),jm 21 23,jq 24 (.ext 0 21),jq 25 (.ext 1 21),jq 26 (.ext 2 21),jq 27 (.ext 3 21),jq 3 (.alloc [.n 6,.n 1,.r (.v (.int .i64 0))]),jp (.st 3 3 24),jm 4 25,jm 5 26,jm 6 27] [0,3,4,5,6] (js [jf 28 2 3,jp (.st 1 28 (ki 0))] [0,3,4,5,6] (js [jl 30 3 3,jm 31 4,jm 32 5,jm 33 6,jq 34 (.call 13 false [30,31,32,33]),jm 29 34,jq 35 (.ext 0 29),jq 36 (.ext 1 29),jm 7 35,jm 8 36] [0,3,4,5,6,7,8] (.seq (js [jl 38 3 3,jm 39 4,jm 40 5,jm 41 6,jq 42 (.call 14 false [38,39,40,41]),jm 37 42,jq 43 (.ext 0 37),jq 44 (.ext 1 37),jm 9 43,jm 10 44] [0,3,4,6,7,8,10] (js [jm 45 8,jm 46 10,jb 47 .neq .b 45 46] [0,3,4,6,7,8,47] (.cond 47 (js [jm 2 kf] [2] .ret) .skip))) (.seq (js [jm 48 8,jq 49 (.not 48),jm 50 49,jv 51 50 (.mv 6),jv 52 50 (.bin .lss .i 51 (ki 0)),jq 53 (.pick 50 kt 52)] [0,3,4,6,7,53] (.cond 53 (js [jm 2 kt] [2] .ret) .skip)) (js [jl 54 3 3,jm 55 7,jm 56 4,jm 57 6,jq 58 (.call 16 false [54,55,(ki 3),56,57]),jm 11 58] [0,3,6,11] (js [jm 59 11,jm 60 0,jc 61 17 [60,(ki 1)],jq 62 (.call 15 false [59,61]),jm 12 62] [0,3,6,11,12] (js [jm 63 11,jm 64 0,jc 65 17 [64,(ki 1)],jm 66 0,jc 67 17 [66,(ki 3)],jb 68 .rem .i 67 (ki 8),jb 69 .shl .i (ki 1) 68,jb 70 .or .i 65 69,jq 71 (.call 15 false [63,70]),jm 13 71] [0,3,6,12,13] (js [jm 72 6,jm 73 0,jc 74 17 [73,(ki 2)],jb 75 .mul .i (ki 5) 74,jb 76 .add .i 72 75,jm 14 76] [3,12,13,14] (js [jl 77 3 3,jm 78 12,jm 79 14,jq 80 (.call 40 false [77,78,(ki 3),79]),jq 15 (.alloc [.n 1,.n 2]),jp (.st 2 15 80)] [3,13,14,15] (js [jl 81 3 3,jm 82 13,jm 83 14,jq 84 (.call 40 false [81,82,(ki 3),83]),jq 16 (.alloc [.n 1,.n 2]),jp (.st 2 16 84)] [15,16] (.seq (js [jf 85 1 15,jk 86 85,jq 87 (.len false 86),jb 88 .geq .i 87 (ki 60)] [15,16,88] (.cond 88 (js [jm 2 kt] [2] .ret) .skip)) (.seq (js [jm 17 (ki 0)] [15,16,17] (.bl 0 (.seq (js [jm 89 17,jf 90 0 16,jk 91 90,jq 92 (.len false 91),jb 93 .lss .i 89 92] [15,16,17,93] (.cond 93 .skip (.exit 0))) (.seq (.block 1 (.seq (.reg (some [[],[0],[],[2],[],[2,3,4],[2,3,4,5],[0,1,2,3,4,5,6],[0,1,2,3,4,5,6,7]]) [jf 96 0 15,jk 97 96,jf 98 0 16,jk 99 98,jm 100 17,ja 101 1 99 100,jk 102 101,jc 103 43 [97,102],jb 104 .lss .i 103 (ki 0)] [15,16,17,104]) (.cond 104 (js [jm 2 kf] [2] .ret) .skip))) (.reg none [jm 94 17,jb 95 .add .i 94 (ki 1),jm 17 95] [15,16,17]))))) (.seq (js [jm 18 (ki 0)] [15,16,18] (.bl 2 (.seq (js [jm 105 18,jf 106 1 16,jk 107 106,jq 108 (.len false 107),jb 109 .lss .i 105 108] [15,16,18,109] (.cond 109 .skip (.exit 2))) (.seq (.block 3 (.seq (.reg (some [[],[0],[],[2],[],[2,3,4],[2,3,4,5],[0,1,2,3,4,5,6],[0,1,2,3,4,5,6,7]]) [jf 112 1 15,jk 113 112,jf 114 1 16,jk 115 114,jm 116 18,ja 117 2
 115 116,jl 118 2 117,jc 119 27 [113,118],jq 120 (.not 119)] [15,16,18,120]) (.cond 120 (js [jm 2 kf] [2] .ret) .skip))) (.reg none [jm 110 18,jb 111 .add .i 110 (ki 1),jm 18 111] [15,16,18]))))) (js [jm 2 kt] [2] .ret))))))))))))))))
def rv7:List RV:=[.t 2]
def bT (g:G) (t:TE) (x12:Belief):List Trip→LR Bool Unit
 |[]=>
  (LR.out ())
 |z2::ls2=>
  lP (nc g t x12.Rides z2) fun x15=>
  br x15
  (
   bT g t x12 ls2)
  (
   (LR.ret false))
def bU (g:G) (t:TE) (x12:Belief):List ByteArray→LR Bool Unit
 |[]=>
  (LR.out ())
 |z1::ls1=>
  lP (m7 g t x12.Places z1) fun x14=>
  br (g.lt x14 0)
  (
   (LR.ret false))
  (
   bU g t x12 ls1)
def fU (g:G) (t:TE) (a0:List Int):Option Bool:=
 lP (tv g t a0) fun x1=>
 br x1
 (
  some true)
 (
  cl (fj g t a0) fun x2=>
  cl (iq g t (Network.mk x2.1.Legs x2.1.Off 0) x2.2.1 x2.2.2.1 x2.2.2.2) fun x3=>
  cl (jJ g t (Network.mk x2.1.Legs x2.1.Off 0) x2.2.1 x2.2.2.1 x2.2.2.2) fun x4=>
  br x3.2
  (
   br x4.2
   (
    br (g.lt x2.2.2.2 0)
    (
     some true)
    (
     cl (nv g t (Network.mk x2.1.Legs x2.1.Off 0) x3.1 3 x2.2.1 x2.2.2.2) fun x5=>
     cl (ul g t a0 1) fun x6=>
     cl (oC g t x5 x6) fun x7=>
     cl (ul g t a0 1) fun x8=>
     cl (ul g t a0 3) fun x9=>
     gd (((0:Int)≤(g.rem x9 8)))<|
     cl (oC g t x5 (g.bor .i64 x8 (g.shl .i64 1 (g.rem x9 8)))) fun x10=>
     cl (ul g t a0 2) fun x11=>
     cl (gL g t (Network.mk x2.1.Legs x2.1.Off 0) x7 3 (g.wrap .i64 (g.add x2.2.2.2 (g.wrap .i64 (g.mul 5 x11))))) fun x12=>
     cl (gL g t (Network.mk x2.1.Legs x2.1.Off 0) x10 3 (g.wrap .i64 (g.add x2.2.2.2 (g.wrap .i64 (g.mul 5 x11))))) fun x13=>
     br (g.le 60 (g.llen (t.r_Trip x12.Rides)))
     (
      some true)
     (
      lP (bU g t x12 x13.Places) fun o1=>lr o1 fun y1=>
      lP (bT g t x12 x13.Rides) fun o2=>lr o2 fun y2=>
      some true)))
   (
    some false))
  (
   br x4.2
   (
    some false)
   (
    some true)))
theorem p6 {g:G} {t:TE} {a0:List Int} {r:Bool} (hg:g=G.real) (ht:t=TE.real) (h:fU g t a0=some r):Fn Tryz.prog 7 [.c (.s 1 (t.r_U8 a0))] (.c (.r (.v (.bool r)))):=by
 obtain⟨X,hX⟩:=aE (.c (.r (.v (.bool r))):X);rw[←hX];refine az (rvs:=rv7) (j:=ir7) Tryz.func7 rfl (by kernel_rfl) (nb rfl) (by kernel_rfl) ac ?_;intro g2 F hg2 hF;obtain rfl:g2=g:=hg2.unique.trans hg.symm;clear hg2;obtain⟨wrap,lt,le,_,_,_,_,_,_,_,_,_,_,add,_,_,_,_,_,_,_,llen,_,_,_,_,_,_,_,rda⟩:=g2;obtain⟨_,_,r_Scan,d_Scan,r_Leg,d_Leg,r_I64,d_I64,r_Trip,d_Trip,_,_,r_S,d_S⟩:=t
 have hrda_Scan:∀l,rda (d_Scan l)=r_Scan l:=Bx hg ht;have hrda_Leg:∀l,rda (d_Leg l)=r_Leg l:=y7 hg ht;have hrda_I64:∀l,rda (d_I64 l)=r_I64 l:=ub hg ht;have hrda_Trip:∀l,rda (d_Trip l)=r_Trip l:=Co hg ht;have hrda_S:∀l,rda (d_S l)=r_S l:=Ek hg ht;unfold fU at h;try dsimp only at h
 cbv;obtain⟨x1,hx1,h⟩:=ag h;try dsimp only at h
 refine ACall.mk _ _ rfl (hF _ _ _ (D3 hg ht hx1)) (.inl rfl) (nb rfl) ?_;cbv
 cases hb1:x1
 rotate_left
 ·rw[ab hb1] at h;cbv;obtain rfl:=Option.some.inj h;exact ARet.mk trivial hX.symm
 rw[aa hb1] at h;cbv;obtain⟨x2,hx2,h⟩:=ae h;obtain⟨⟨x2_1_Legs,x2_1_Off,x2_1_Change⟩,x2_2_1,x2_2_2_1,x2_2_2_2⟩:=x2;try dsimp only at h
 refine ACallR.mk _ _ (.u [.g [.r (.s 6 (r_Leg x2_1_Legs)),.r (.s 1 (r_I64 x2_1_Off)),.r (.v (.int .i64 x2_1_Change))],.c (.r (.v (.string x2_2_1))),.c (.r (.v (.string x2_2_2_1))),.c (.r (.v (.int .i64 x2_2_2_2)))]) rfl (hF _ _ _ (pw hg ht hx2)) (.inl rfl) (nb rfl) (by cbv;(try simp only[hrda_I64,hrda_Leg])) ?_;cbv;obtain⟨x3,hx3,h⟩:=ae h;obtain⟨x3_1,x3_2⟩:=x3;try dsimp only at h
 refine ACallR.mk _ _ (.u [.c (.r (.s 2 (r_Trip x3_1))),.c (.r (.v (.bool x3_2)))]) rfl (hF _ _ _ (wM hg ht hx3)) (.inl rfl) (nb rfl) (by cbv;(try simp only[hrda_Trip])) ?_;cbv;obtain⟨x4,hx4,h⟩:=ae h;obtain⟨x4_1,x4_2⟩:=x4;try dsimp only at h
 refine ACallR.mk _ _ (.u [.c (.r (.s 2 (r_Trip x4_1))),.c (.r (.v (.bool x4_2)))]) rfl (hF _ _ _ (vV hg ht hx4)) (.inl rfl) (nb rfl) (by cbv;(try simp only[hrda_Trip])) ?_;cbv;have hb2:x3_2=true∨x3_2=false:=by cases x3_2<;>simp
 rcases hb2 with hb2|hb2
 ·rw[ab hb2] at h;have hK_:=h;subst hb2;have h:=hK_;clear hK_;cbv;have hb3:x4_2=true∨x4_2=false:=by cases x4_2<;>simp
  rcases hb3 with hb3|hb3
  ·rw[ab hb3] at h;have hK_:=h;subst hb3;have h:=hK_;clear hK_;cbv;iterate 3 try(rw[hb2];cbv)
   cases hb4:(lt x2_2_2_2 0)
   rotate_left
   ·rw[ab hb4] at h;cbv;obtain rfl:=Option.some.inj h;exact ARet.mk trivial hX.symm
   rw[aa hb4] at h;cbv;obtain⟨x5,hx5,h⟩:=ae h;try dsimp only at h
   refine ACallR.mk _ _ (.c (.r (.s 6 (r_Scan x5)))) rfl (hF _ _ _ (AS hg ht hx5)) (.inl rfl) (nb rfl) (by cbv;(try simp only[hrda_Scan])) ?_;cbv;obtain⟨x6,hx6,h⟩:=ae h;try dsimp only at h
   refine ACall.mk _ _ rfl (hF _ _ _ (uc hg ht hx6)) (.inl rfl) (nb rfl) ?_;cbv;obtain⟨x7,hx7,h⟩:=ae h;try dsimp only at h
   refine ACallR.mk _ _ (.c (.r (.s 6 (r_Scan x7)))) rfl (hF _ _ _ (vx hg ht hx7)) (.inl rfl) (nb rfl) (by cbv;(try simp only[hrda_Scan])) ?_;cbv;obtain⟨x8,hx8,h⟩:=ae h;try dsimp only at h
   refine ACall.mk _ _ rfl (hF _ _ _ (uc hg ht hx8)) (.inl rfl) (nb rfl) ?_;cbv;obtain⟨x9,hx9,h⟩:=ae h;try dsimp only at h
   refine ACall.mk _ _ rfl (hF _ _ _ (uc hg ht hx9)) (.inl rfl) (nb rfl) ?_;cbv;refine AStep.mk (by decide) ?_;cbv;obtain⟨hc1,h⟩:=aj h;refine AStep.mk hc1 ?_;cbv;obtain⟨x10,hx10,h⟩:=ae h;try dsimp only at h
   refine ACallR.mk _ _ (.c (.r (.s 6 (r_Scan x10)))) rfl (hF _ _ _ (vx hg ht hx10)) (.inl rfl) (nb rfl) (by cbv;(try simp only[hrda_Scan])) ?_;cbv;obtain⟨x11,hx11,h⟩:=ae h;try dsimp only at h
   refine ACall.mk _ _ rfl (hF _ _ _ (uc hg ht hx11)) (.inl rfl) (nb rfl) ?_;cbv;obtain⟨x12,hx12,h⟩:=ae h;obtain⟨x12_Places,x12_Rides⟩:=x12;try dsimp only at h
   refine ACallR.mk _ _ (.g [.r (.s 1 (r_S x12_Places)),.r (.s 2 (r_Trip x12_Rides))]) rfl (hF _ _ _ (mV hg ht hx12)) (.inl rfl) (nb rfl) (by cbv;(try simp only[hrda_S,hrda_Trip])) ?_;cbv;obtain⟨x13,hx13,h⟩:=ae h;obtain⟨x13_Places,x13_Rides⟩:=x13;try dsimp only at h
   refine ACallR.mk _ _ (.g [.r (.s 1 (r_S x13_Places)),.r (.s 2 (r_Trip x13_Rides))]) rfl (hF _ _ _ (mV hg ht hx13)) (.inl rfl) (nb rfl) (by cbv;(try simp only[hrda_S,hrda_Trip])) ?_;cbv
   cases hb5:(le 60 (llen (r_Trip x12_Rides)))
   rotate_left
   ·rw[ab hb5] at h;cbv;obtain rfl:=Option.some.inj h;exact ARet.mk trivial hX.symm
   rw[aa hb5] at h;cbv;obtain⟨o1,ho1,h⟩:=ag h;try dsimp only at h
   try rw[hg] at ho1
   try rw[ht] at ho1
   refine ABL.mk {p:Nat×Int//p.1≤x13_Places.length∧p.2=((p.1:Nat):Int)∧bU G.real TE.real (Belief.mk x12_Places x12_Rides) (List.drop p.1 x13_Places)=o1} (fun⟨⟨k1,v1⟩,_⟩=>({sl:=[(15,.c (.p 0 2 0 0)),(16,.c (.p 1 2 0 0)),(17,.c (.r (.v (.int .i64 v1))))],tab:=[(0,some (.foc 2 [] [.r (.s 1 (r_S x12_Places)),.r (.s 2 (r_Trip x12_Rides))] [])),(1,some (.foc 2 [] [.r (.s 1 (r_S x13_Places)),.r (.s 2 (r_Trip x13_Rides))] []))]}:St)) 2 (fun p=>x13_Places.length-p.1.1) ⟨(0,0),Nat.zero_le _,rfl,ho1⟩ (Unit) (fun _=>({sl:=[(15,.c (.p 0 2 0 0)),(16,.c (.p 1 2 0 0))],tab:=[(0,some (.foc 2 [] [.r (.s 1 (r_S x12_Places)),.r (.s 2 (r_Trip x12_Rides))] [])),(1,some (.foc 2 [] [.r (.s 1 (r_S x13_Places)),.r (.s 2 (r_Trip x13_Rides))] []))]}:St)) 2 (fun y=>o1=LR.out y) ?_ ?_ ?_
   ·refine Wk.of [(0,some 1232),(1,some 1328)] rfl rfl ?_ ?_
    ·cbv;all_goals exact⟨⟨_,rfl,rfl⟩,⟨_,rfl,rfl⟩,⟨_,rfl,rfl⟩,trivial⟩
    cbv;all_goals exact⟨⟨_,rfl,_,rfl,rfl,rfl,trivial⟩,⟨_,rfl,_,rfl,rfl,rfl,trivial⟩,trivial⟩
   ·rintro⟨⟨k1,v1⟩,hk1,hi1,h_1⟩ hq1;have hm1:=(hq1.2.2.1 1 _ _ _ _ 0 _ _ rfl rfl);try dsimp only at hk1 hi1 h_1
    clear hq1;cbv
    by_cases hc1_:k1<x13_Places.length
    ·have hb6:lt v1 (llen (r_S x13_Places))=true:=iC hg ht hi1 hc1_;have hs1:=m9 hg ht hi1 hc1_ hm1;obtain⟨z1,hz1⟩:=aD hc1_;rw[aw hz1] at h_1;rw[bU] at h_1;try rw[←hg] at h_1
     try rw[←ht] at h_1
     try dsimp only at h_1
     rw[hb6];cbv;refine AStep.mk (fB hi1) ?_;cbv;refine AGet.mk _ (mO hg ht hi1 hz1) ?_;cbv;obtain⟨x14,hx14,h_1⟩:=ag h_1;try dsimp only at h_1
     refine ACall.mk _ _ rfl (hF _ _ _ (Ab hg ht hx14)) (.inl rfl) (nb rfl) ?_;cbv
     cases hb7:(lt x14 0)
     rotate_left
     ·rw[ab hb7] at h_1;cbv;subst h_1;try dsimp only[lr,lrL,lrp,aW] at h
      obtain rfl:=Option.some.inj h;exact ARet.mk trivial hX.symm
     rw[aa hb7] at h_1;cbv;try rw[hg] at h_1
     try rw[ht] at h_1
     refine⟨⟨(k1+1,(wrap .i64 (add v1 1))),hc1_,hs1,h_1⟩,Wk.of [(0,some 0),(1,some 1)] rfl rfl ?_ ?_,aJ hc1_⟩
     ·cbv;all_goals exact⟨⟨_,rfl,rfl⟩,⟨_,rfl,rfl⟩,⟨_,rfl,rfl⟩,trivial⟩
     cbv;all_goals exact⟨⟨_,rfl,_,rfl,rfl,rfl,trivial⟩,⟨_,rfl,_,rfl,rfl,rfl,trivial⟩,trivial⟩
    have hb6:lt v1 (llen (r_S x13_Places))=false:=g0 hg ht hi1 hc1_;rw[List.drop_of_length_le (Nat.le_of_not_lt hc1_)] at h_1;rw[bU] at h_1;try rw[←hg] at h_1
    try rw[←ht] at h_1
    try dsimp only at h_1
    rw[hb6];cbv;refine⟨(),Wk.of [(0,some 0),(1,some 1)] rfl rfl ?_ ?_,h_1.symm⟩
    ·cbv;all_goals exact⟨⟨_,rfl,rfl⟩,⟨_,rfl,rfl⟩,trivial⟩
    cbv;all_goals exact⟨⟨_,rfl,_,rfl,rfl,rfl,trivial⟩,⟨_,rfl,_,rfl,rfl,rfl,trivial⟩,trivial⟩
   rintro _ hy1;replace hy1:=hy1.symm;subst hy1;try dsimp only[lr,lrL,lrp,aW] at h
   cbv;obtain⟨o2,ho2,h⟩:=ag h;try dsimp only at h
   try rw[hg] at ho2
   try rw[ht] at ho2
   refine ABL.mk {p:Nat×Int//p.1≤x13_Rides.length∧p.2=((p.1:Nat):Int)∧bT G.real TE.real (Belief.mk x12_Places x12_Rides) (List.drop p.1 x13_Rides)=o2} (fun⟨⟨k2,v2⟩,_⟩=>({sl:=[(15,.c (.p 0 2 0 0)),(16,.c (.p 1 2 0 0)),(18,.c (.r (.v (.int .i64 v2))))],tab:=[(0,some (.foc 2 [] [.r (.s 1 (r_S x12_Places)),.r (.s 2 (r_Trip x12_Rides))] [])),(1,some (.foc 2 [] [.r (.s 1 (r_S x13_Places)),.r (.s 2 (r_Trip x13_Rides))] []))]}:St)) 2 (fun p=>x13_Rides.length-p.1.1) ⟨(0,0),Nat.zero_le _,rfl,ho2⟩ (Unit) (fun _=>({sl:=[],tab:=[]}:St)) 0 (fun y=>o2=LR.out y) ?_ ?_ ?_
   ·refine Wk.of [(0,some 0),(1,some 1)] rfl rfl ?_ ?_
    ·cbv;all_goals exact⟨⟨_,rfl,rfl⟩,⟨_,rfl,rfl⟩,⟨_,rfl,rfl⟩,trivial⟩
    cbv;all_goals exact⟨⟨_,rfl,_,rfl,rfl,rfl,trivial⟩,⟨_,rfl,_,rfl,rfl,rfl,trivial⟩,trivial⟩
   ·rintro⟨⟨k2,v2⟩,hk2,hi2,h_2⟩ hq2;have hm2:=(hq2.2.2.1 1 _ _ _ _ 1 _ _ rfl rfl);try dsimp only at hk2 hi2 h_2
    clear hq2;cbv
    by_cases hc2_:k2<x13_Rides.length
    ·have hb8:lt v2 (llen (r_Trip x13_Rides))=true:=gM hg ht hi2 hc2_;have hs2:=j9 hg ht hi2 hc2_ hm2;obtain⟨z2,hz2⟩:=aD hc2_;rw[aw hz2] at h_2;rw[bT] at h_2;obtain⟨z2_Leg,z2_Day⟩:=z2;try rw[←hg] at h_2
     try rw[←ht] at h_2
     try dsimp only at h_2
     rw[hb8];cbv;refine AStep.mk (fB hi2) ?_;cbv;refine AGet.mk _ (ek hg ht hi2 hz2) ?_;cbv;obtain⟨x15,hx15,h_2⟩:=ag h_2;try dsimp only at h_2
     refine ACall.mk _ _ rfl (hF _ _ _ (As hg ht hx15)) (.inl rfl) (nb rfl) ?_;cbv
     cases hb9:x15
     ·rw[aa hb9] at h_2;cbv;subst h_2;try dsimp only[lr,lrL,lrp,aW] at h
      obtain rfl:=Option.some.inj h;exact ARet.mk trivial hX.symm
     rw[ab hb9] at h_2;cbv;try rw[hg] at h_2
     try rw[ht] at h_2
     refine⟨⟨(k2+1,(wrap .i64 (add v2 1))),hc2_,hs2,h_2⟩,Wk.of [(0,some 0),(1,some 1)] rfl rfl ?_ ?_,aJ hc2_⟩
     ·cbv;all_goals exact⟨⟨_,rfl,rfl⟩,⟨_,rfl,rfl⟩,⟨_,rfl,rfl⟩,trivial⟩
     cbv;all_goals exact⟨⟨_,rfl,_,rfl,rfl,rfl,trivial⟩,⟨_,rfl,_,rfl,rfl,rfl,trivial⟩,trivial⟩
    have hb8:lt v2 (llen (r_Trip x13_Rides))=false:=f8 hg ht hi2 hc2_;rw[List.drop_of_length_le (Nat.le_of_not_lt hc2_)] at h_2;rw[bT] at h_2;try rw[←hg] at h_2
    try rw[←ht] at h_2
    try dsimp only at h_2
    rw[hb8];cbv;refine⟨(),Wk.of [] rfl rfl ?_ ?_,h_2.symm⟩
    ·cbv;all_goals exact trivial
    cbv;all_goals exact trivial
   rintro _ hy2;replace hy2:=hy2.symm;subst hy2;try dsimp only[lr,lrL,lrp,aW] at h
   cbv;obtain rfl:=Option.some.inj h;exact ARet.mk trivial hX.symm
  rw[aa hb3] at h;have hK_:=h;subst hb3;have h:=hK_;clear hK_;cbv;obtain rfl:=Option.some.inj h;exact ARet.mk trivial hX.symm
 rw[aa hb2] at h;have hK_:=h;subst hb2;have h:=hK_;clear hK_;cbv;have hb10:x4_2=true∨x4_2=false:=by cases x4_2<;>simp
 rcases hb10 with hb10|hb10
 ·rw[ab hb10] at h;have hK_:=h;subst hb10;have h:=hK_;clear hK_;cbv;obtain rfl:=Option.some.inj h;exact ARet.mk trivial hX.symm
 rw[aa hb10] at h;have hK_:=h;subst hb10;have h:=hK_;clear hK_;cbv;iterate 3 try(rw[hb2];cbv)
 obtain rfl:=Option.some.inj h;exact ARet.mk trivial hX.symm
end Go.Vs
