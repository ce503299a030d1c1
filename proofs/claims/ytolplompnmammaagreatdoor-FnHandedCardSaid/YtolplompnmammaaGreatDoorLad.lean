/- Part of the proofs of this seat's laws: Lad. No condition. -/
import Derived.Test.YtolplompnmammaaGreatDoorTy
import Derived.Test.YtolplompnmammaaGreatDoorTIRall
import Derived.Test.YtolplompnmammaaGreatDoorLac
import Derived.Test.YtolplompnmammaaGreatDoorVg
import Derived.Lib.Join
import Derived.Lib.AppendIntMem
import Derived.Test.YtolplompnmammaaGreatDoorProg
import Derived.Shelf.Lay
import Derived.Shelf.Strconv.Itoa3
import Derived.KernelRfl
import Derived.Shelf.Strings.OnBuilder
import Derived.Test.YtolplompnmammaaGreatDoorLaa
set_option linter.unusedVariables false
set_option linter.unusedSimpArgs false
set_option linter.unusedSectionVars false
namespace Go.Vs
set_option maxRecDepth 100000
def Gg:J:=js [jq 1 (.box 0),jq 2 (.mv (.k (.c .un)))] [1] (js [jq 3 (.clo false 132 [1]),jm 2 3] [2] .ret)
def Fm:List RV:=[.t 2]
open Go.Proofs Go.IntWalk
set_option linter.unusedVariables false
set_option maxHeartbeats 4000000
def nD (g:G) (t:TE) (a0:Network):Fd:=
 (Fd.I_nextOf_1 a0)
theorem wR {g:G} {t:TE} {a0:Network} {r:Fd} (hg:g=G.real) (ht:t=TE.real) (h:nD g t a0=r):Fn Tryz.prog 112 [.g (Network.rs t a0)] (.c (.r (t.r_Fd r))):=by
 obtain⟨X,hX⟩:=aE (.c (.r (t.r_Fd r)):X);rw[←hX];refine aB (rvs:=Fm) (j:=Gg) Tryz.func112 rfl (by kernel_rfl) (nb rfl) (by kernel_rfl) af ?_;intro g2 F hg2 hF;obtain rfl:g2=g:=hg2.unique.trans hg.symm;clear hg2;obtain⟨_⟩:=g2;obtain⟨_,_,_,_,_,_,_,_,_,_,_,_,r_Fd⟩:=t
 obtain⟨a0_Legs,a0_Off,a0_Change⟩:=a0;unfold nD at h;try dsimp only at h
 cbv;refine AClo.mk (r_Fd (Fd.I_nextOf_1 (Network.mk a0_Legs a0_Off a0_Change))) (kN ht (Network.mk a0_Legs a0_Off a0_Change)) ?_;cbv;subst h;exact ARet.mk trivial hX.symm
def ir78:J:=js [jq 4 (.box 0),jq 8 (.mv (.k (.c (.n 1))))] [1,2,3,4] (.seq (js [jl 9 3 4,jc 10 16 [9],jq 11 (.not 10)] [1,2,3,4,11] (.cond 11 (js [jq 8 (.mv (.k (.c (.n 1))))] [8] .ret) .skip)) (.seq (.reg (some [[],[],[1],[],[],[],[0,1,2,3,4,5],[0,1,2,3,4,5,6]]) [jl 12 3 4,jl 13 3 4,jc 14 112 [13],jm 15 1,jm 16 2,jm 17 3,jc 18 111 [12,14,15,16,17],jm 8 18] [8]) .ret))
def rv78:List RV:=[.t 8]
def dh (g:G) (t:TE) (a0:Network) (a1:ByteArray) (a2:Int) (a3:Int):Option (List Int):=
 cl (c7 g t a0) fun x1=>
 br x1
 (
  lP (nD g t a0) fun x2=>
  cl (iv g t a0 x2 a1 a2 a3) fun x3=>
  some x3)
 (
  some [])
theorem oa {g:G} {t:TE} {a0:Network} {a1:ByteArray} {a2:Int} {a3:Int} {r:List Int} (hg:g=G.real) (ht:t=TE.real) (h:dh g t a0 a1 a2 a3=some r):Fn Tryz.prog 78 [.g (Network.rs t a0),.c (.v (.string a1)),.c (.v (.int .i64 a2)),.c (.v (.int .i64 a3))] (.c (.o 1 (t.d_I64 r))):=by
 obtain⟨X,hX⟩:=aE (.c (.o 1 (t.d_I64 r)):X);rw[←hX];refine aB (rvs:=rv78) (j:=ir78) Tryz.func78 rfl (by kernel_rfl) (nb rfl) (by kernel_rfl) af ?_;intro g2 F hg2 hF;obtain rfl:g2=g:=hg2.unique.trans hg.symm;clear hg2;obtain⟨_⟩:=g2;obtain⟨_,_,_,_,_,d_I64⟩:=t
 obtain⟨a0_Legs,a0_Off,a0_Change⟩:=a0;have hnil_I64:d_I64 []=[]:=oC ht;unfold dh at h;try dsimp only at h
 cbv;obtain⟨x1,hx1,h⟩:=ac h;try dsimp only at h
 refine ACall.mk _ _ rfl (hF _ _ _ (fz hg ht hx1)) (.inl rfl) (nb rfl) ?_;cbv
 cases hb1:x1
 ·rw[aa hb1] at h;cbv;obtain rfl:=Option.some.inj h;exact ARet.mk trivial (by rw[hX];first|rfl|(simp only[Leg.ds,Network.ds,Trip.ds,Scan.ds,Belief.ds,Cur.ds,Spot.ds,Know.ds,hnil_I64];try rfl))
 rw[ab hb1] at h;cbv;obtain⟨x2,hx2,h⟩:=ah h;try dsimp only at h
 refine ACall.mk _ _ rfl (hF _ _ _ (wR hg ht hx2)) (.inl rfl) (nb rfl) ?_;cbv;obtain⟨x3,hx3,h⟩:=ac h;try dsimp only at h
 refine ACall.mk _ _ rfl (hF _ _ _ (tF hg ht hx3)) (.inl rfl) (nb rfl) ?_;cbv;obtain rfl:=Option.some.inj h;exact ARet.mk ⟨rfl,(aq hg ht _)⟩ hX.symm
def ir58:J:=js [jq 4 (.box 0),jm 8 (ki 0)] [1,2,3,4] (js [jl 12 3 4,jc 13 18 [12],jm 9 13] [1,2,3,4,9] (js [jl 14 3 4,jm 15 1,jm 16 3,jm 17 9,jq 18 (.len false 17),jc 19 78 [14,15,16,18],jm 10 19] [2,9,10] (js [jm 20 9,jm 21 2,jc 22 25 [20,21],jm 11 22] [10,11] (.seq (js [jm 23 11,jb 24 .lss .i 23 (ki 0),jm 25 24,jv 26 25 (.mv 10),jv 27 25 (.len false 26),jv 28 25 (.bin .eql .i 27 (ki 0)),jq 29 (.pick 25 kt 28)] [10,11,29] (.cond 29 (js [jq 8 (.mv (.k (V.i (-1))))] [8] .ret) .skip)) (js [jm 30 10,jm 31 11,ja 32 1 30 31,jk 33 32,jm 8 33] [8] .ret)))))
def rv58:List RV:=[.t 8]
def eW (g:G) (t:TE) (a0:Network) (a1:ByteArray) (a2:ByteArray) (a3:Int):Option Int:=
 cl (dI g t a0) fun x1=>
 cl (dh g t a0 a1 a3 (g.int (g.dlen (t.d_S x1)))) fun x2=>
 lP (dk g t x1 a2) fun x3=>
 br (g.lt x3 0)
 (
  some (-1))
 (
  br (g.eq (g.int (g.dlen (t.d_I64 x2))) 0)
  (
   some (-1))
  (
   gd (((0:Int)≤x3∧x3<(((g.dlen (t.d_I64 x2)):Nat):Int)))<|
   gt x2 (g.nat x3) fun x4=>
   some x4))
theorem kE {g:G} {t:TE} {a0:Network} {a1:ByteArray} {a2:ByteArray} {a3:Int} {r:Int} (hg:g=G.real) (ht:t=TE.real) (h:eW g t a0 a1 a2 a3=some r):Fn Tryz.prog 58 [.g (Network.rs t a0),.c (.v (.string a1)),.c (.v (.string a2)),.c (.v (.int .i64 a3))] (.c (.r (.v (.int .i64 r)))):=by
 obtain⟨X,hX⟩:=aE (.c (.r (.v (.int .i64 r))):X);rw[←hX];refine aB (rvs:=rv58) (j:=ir58) Tryz.func58 rfl (by kernel_rfl) (nb rfl) (by kernel_rfl) af ?_;intro g2 F hg2 hF;obtain rfl:g2=g:=hg2.unique.trans hg.symm;clear hg2;obtain⟨_,lt,_,eq,_,_,_,_,_,_,_,_,int,_,_,_,_,_,_,_,_,_,_,_,dlen,_,_,_,rd⟩:=g2;obtain⟨_,_,_,_,_,d_I64,_,_,r_S,d_S⟩:=t
 obtain⟨a0_Legs,a0_Off,a0_Change⟩:=a0;unfold eW at h;try dsimp only at h
 cbv;obtain⟨x1,hx1,h⟩:=ac h;try dsimp only at h
 refine ACall.mk _ _ rfl (hF _ _ _ (e9 hg ht hx1)) (.inl rfl) (nb rfl) ?_;cbv;obtain⟨x2,hx2,h⟩:=ac h;try dsimp only at h
 refine ACall.mk _ _ rfl (hF _ _ _ (oa hg ht hx2)) (.inl rfl) (nb rfl) ?_;cbv;refine AStep.mk (en ht (al hg ht _)) ?_;cbv;obtain⟨x3,hx3,h⟩:=ah h;try dsimp only at h
 refine ACall.mk _ _ (by rw[show rd (d_S x1) 0 (dlen (d_S x1))=r_S x1 from gi hg ht (al hg ht _)];try rfl) (hF _ _ _ (eJ hg ht hx3)) (.inr rfl) (nb rfl) ?_
 cbv
 cases hb1:(lt x3 0)
 rotate_left
 ·rw[ab hb1] at h;cbv;iterate 3 try(rw[hb1];cbv)
  obtain rfl:=Option.some.inj h;exact ARet.mk trivial hX.symm
 rw[aa hb1] at h;cbv;iterate 3 try(rw[hb1];cbv)
 cases hb2:(eq (int (dlen (d_I64 x2))) 0)
 rotate_left
 ·rw[ab hb2] at h;cbv;obtain rfl:=Option.some.inj h;exact ARet.mk trivial hX.symm
 rw[aa hb2] at h;cbv;obtain⟨hc1,h⟩:=aj h;refine AStep.mk hc1 ?_;cbv;obtain⟨x4,hx4,h⟩:=aP h;try dsimp only at h
 refine AGet.mk _ (bt hg ht hx4) ?_;cbv;obtain rfl:=Option.some.inj h;exact ARet.mk trivial hX.symm
def ir61:J:=js [jq 3 (.box 0),jq 4 (.box 1),jq 5 (.box 2),jm 6 kf] [3,4,5] (.seq (js [jf 8 0 4,jk 9 8,jf 10 0 5,jk 11 10,jb 12 .eql .s 9 11] [3,4,5,12] (.cond 12 (js [jf 13 1 4,jk 14 13,jf 15 1 5,jk 16 15,jb 17 .leq .i 14 16,jm 6 17] [6] .ret) .skip)) (js [jl 18 3 3,jf 19 0 4,jk 20 19,jf 21 0 5,jk 22 21,jf 23 1 4,jk 24 23,jc 25 58 [18,20,22,24],jm 7 25] [5,7] (js [jm 26 7,jq 27 (.bin .neq .i 26 (.k (V.i (-1)))),jm 28 27,ju 29 28 (.mv 7),ju 30 28 (.fa 1 5),ju 31 28 (.ld false 1 30),ju 32 28 (.bin .leq .i 29 31),jq 33 (.pick 28 32 kf),jm 6 33] [6] .ret)))
def rv61:List RV:=[.t 6]
def eI (g:G) (t:TE) (a0:Network) (a1:Spot) (a2:Spot):Option Bool:=
 br (g.seq a1.Place a2.Place)
 (
  some (g.le a1.At a2.At))
 (
  cl (eW g t a0 a1.Place a2.Place a1.At) fun x1=>
  br (g.eq x1 (-1))
  (
   some false)
  (
   some (g.le x1 a2.At)))
theorem jg {g:G} {t:TE} {a0:Network} {a1:Spot} {a2:Spot} {r:Bool} (hg:g=G.real) (ht:t=TE.real) (h:eI g t a0 a1 a2=some r):Fn Tryz.prog 61 [.g (Network.rs t a0),.g (Spot.rs t a1),.g (Spot.rs t a2)] (.c (.r (.v (.bool r)))):=by
 obtain⟨X,hX⟩:=aE (.c (.r (.v (.bool r))):X);rw[←hX];refine aB (rvs:=rv61) (j:=ir61) Tryz.func61 rfl (by kernel_rfl) (nb rfl) (by kernel_rfl) af ?_;intro g2 F hg2 hF;obtain rfl:g2=g:=hg2.unique.trans hg.symm;clear hg2;obtain⟨_,_,_,eq,_,_,_,_,_,_,_,_,_,_,_,_,_,seq⟩:=g2;obtain⟨_⟩:=t
 obtain⟨a0_Legs,a0_Off,a0_Change⟩:=a0;obtain⟨a1_Place,a1_At⟩:=a1;obtain⟨a2_Place,a2_At⟩:=a2;unfold eI at h;try dsimp only at h
 cbv
 cases hb1:(seq a1_Place a2_Place)
 rotate_left
 ·rw[ab hb1] at h;cbv;obtain rfl:=Option.some.inj h;exact ARet.mk trivial hX.symm
 rw[aa hb1] at h;cbv;obtain⟨x1,hx1,h⟩:=ac h;try dsimp only at h
 refine ACall.mk _ _ rfl (hF _ _ _ (kE hg ht hx1)) (.inl rfl) (nb rfl) ?_;cbv
 cases hb2:(eq x1 (-1))
 rotate_left
 ·rw[ab hb2] at h;cbv;iterate 4 try(rw[hb2];cbv)
  obtain rfl:=Option.some.inj h;exact ARet.mk trivial hX.symm
 rw[aa hb2] at h;cbv;iterate 4 try(rw[hb2];cbv)
 obtain rfl:=Option.some.inj h;exact ARet.mk trivial hX.symm
def ir44:J:=js [jq 3 (.box 0),jq 4 (.box 1),jq 5 (.box 2),jm 6 kf] [3,4,5] (.seq (js [jl 7 3 3,jl 8 6 4,jc 9 55 [7,8],jq 10 (.not 9),jm 11 10,jv 12 11 (.ld true 3 3),jv 13 11 (.ld true 6 5),jv 14 11 (.call 55 true [12,13]),jv 15 11 (.not 14),jq 16 (.pick 11 kt 15),jm 17 16,jv 18 17 (.fa 0 4),jv 19 17 (.ld false 1 18),jv 20 17 (.fa 0 5),jv 21 17 (.ld false 1 20),jv 22 17 (.bin .neq .i 19 21),jq 23 (.pick 17 kt 22),jm 24 23,jv 25 24 (.ld true 6 4),jv 26 24 (.ld true 6 5),jv 27 24 (.call 60 true [25,26]),jv 28 24 (.bin .geq .i 27 (ki 0)),jq 29 (.pick 24 kt 28),jm 30 29,jv 31 30 (.fa 2 4),jv 32 30 (.ld false 1 31),jv 33 30 (.bin .eql .i 32 (ki 4)),jq 34 (.pick 30 kt 33)] [3,4,5,34] (.cond 34 (js [jm 6 kf] [6] .ret) .skip)) (.seq (js [jf 35 2 5,jk 36 35,jb 37 .eql .i 36 (ki 2),jm 38 37,ju 39 38 (.fa 2 4),ju 40 38 (.ld false 1 39),ju 41 38 (.bin .eql .i 40 (ki 3)),jq 42 (.pick 38 41 kf),jm 43 42,ju 44 43 (.fa 4 4),ju 45 43 (.ld true 2 44),ju 46 43 (.fa 4 5),ju 47 43 (.ld true 2 46),ju 48 43 (.eqs false [.i,.i] 45 47),jq 49 (.pick 43 48 kf)] [3,4,5,49] (.cond 49 (js [jm 6 kt] [6] .ret) .skip)) (.seq (.reg (some [[],[],[],[1,2],[],[],[1,2,3,4,5],[0,1,2,3,4,5,6],[0,1,2,3,4,5,6,7]]) [jl 50 3 3,jl 51 3 3,jl 52 6 4,jc 53 39 [51,52],jl 54 3 3,jl 55 6 5,jc 56 40 [54,55],jc 57 61 [50,53,56],jm 6 57] [6]) .ret)))
def rv44:List RV:=[.t 6]
def gW (g:G) (t:TE) (a0:Network) (a1:Scan) (a2:Scan):Option Bool:=
 cl (fm g t a0 (Scan.mk a1.Thing a1.At a1.Kind a1.Place (Trip.mk a1.Trip.Leg a1.Trip.Day))) fun x1=>
 br x1
 (
  cl (fm g t a0 (Scan.mk a2.Thing a2.At a2.Kind a2.Place (Trip.mk a2.Trip.Leg a2.Trip.Day))) fun x2=>
  br x2
  (
   br (g.eq a1.Thing a2.Thing)
   (
    lP (bG g t (Scan.mk a1.Thing a1.At a1.Kind a1.Place (Trip.mk a1.Trip.Leg a1.Trip.Day)) (Scan.mk a2.Thing a2.At a2.Kind a2.Place (Trip.mk a2.Trip.Leg a2.Trip.Day))) fun x3=>
    br (g.le 0 x3)
    (
     some false)
    (
     br (g.eq a1.Kind 4)
     (
      some false)
     (
      br (g.eq a2.Kind 2)
      (
       br (g.eq a1.Kind 3)
       (
        br (g.all [(g.eq a1.Trip.Leg a2.Trip.Leg),(g.eq a1.Trip.Day a2.Trip.Day)])
        (
         some true)
        (
         cl (bu g t a0 (Scan.mk a1.Thing a1.At a1.Kind a1.Place (Trip.mk a1.Trip.Leg a1.Trip.Day))) fun x4=>
         cl (bw g t a0 (Scan.mk a2.Thing a2.At a2.Kind a2.Place (Trip.mk a2.Trip.Leg a2.Trip.Day))) fun x5=>
         cl (eI g t a0 x4 x5) fun x6=>
         some x6))
       (
        cl (bu g t a0 (Scan.mk a1.Thing a1.At a1.Kind a1.Place (Trip.mk a1.Trip.Leg a1.Trip.Day))) fun x7=>
        cl (bw g t a0 (Scan.mk a2.Thing a2.At a2.Kind a2.Place (Trip.mk a2.Trip.Leg a2.Trip.Day))) fun x8=>
        cl (eI g t a0 x7 x8) fun x9=>
        some x9))
      (
       cl (bu g t a0 (Scan.mk a1.Thing a1.At a1.Kind a1.Place (Trip.mk a1.Trip.Leg a1.Trip.Day))) fun x10=>
       cl (bw g t a0 (Scan.mk a2.Thing a2.At a2.Kind a2.Place (Trip.mk a2.Trip.Leg a2.Trip.Day))) fun x11=>
       cl (eI g t a0 x10 x11) fun x12=>
       some x12))))
   (
    some false))
  (
   some false))
 (
  some false)
theorem rR {g:G} {t:TE} {a0:Network} {a1:Scan} {a2:Scan} {r:Bool} (hg:g=G.real) (ht:t=TE.real) (h:gW g t a0 a1 a2=some r):Fn Tryz.prog 44 [.g (Network.rs t a0),.g (Scan.rs t a1),.g (Scan.rs t a2)] (.c (.r (.v (.bool r)))):=by
 obtain⟨X,hX⟩:=aE (.c (.r (.v (.bool r))):X);rw[←hX];refine aB (rvs:=rv44) (j:=ir44) Tryz.func44 rfl (by kernel_rfl) (nb rfl) (by kernel_rfl) af ?_;intro g2 F hg2 hF;obtain rfl:g2=g:=hg2.unique.trans hg.symm;clear hg2;obtain⟨_,_,le,eq,_,_,_,_,_,_,_,_,_,_,_,_,_,_,_,_,_,_,_,_,_,_,_,_,_,_,_,_,_,all⟩:=g2;obtain⟨_⟩:=t
 obtain⟨a0_Legs,a0_Off,a0_Change⟩:=a0;obtain⟨a1_Thing,a1_At,a1_Kind,a1_Place,⟨a1_Trip_Leg,a1_Trip_Day⟩⟩:=a1;obtain⟨a2_Thing,a2_At,a2_Kind,a2_Place,⟨a2_Trip_Leg,a2_Trip_Day⟩⟩:=a2;unfold gW at h;try dsimp only at h
 cbv;obtain⟨x1,hx1,h⟩:=ac h;try dsimp only at h
 refine ACall.mk _ _ rfl (hF _ _ _ (gC hg ht hx1)) (.inl rfl) (nb rfl) ?_;cbv
 cases hb1:x1
 ·rw[aa hb1] at h;cbv;iterate 4 try(rw[hb1];cbv)
  obtain rfl:=Option.some.inj h;exact ARet.mk trivial hX.symm
 rw[ab hb1] at h;cbv;iterate 2 try(rw[hb1];cbv)
 obtain⟨x2,hx2,h⟩:=ac h;try dsimp only at h
 refine ACall.mk _ _ rfl (hF _ _ _ (gC hg ht hx2)) (.inl rfl) (nb rfl) ?_;cbv;iterate 2 try(rw[hb1];cbv)
 cases hb2:x2
 ·rw[aa hb2] at h;cbv;iterate 5 try(rw[hb2];cbv)
  obtain rfl:=Option.some.inj h;exact ARet.mk trivial hX.symm
 rw[ab hb2] at h;cbv;iterate 5 try(rw[hb2];cbv)
 cases hb3:(eq a1_Thing a2_Thing)
 ·rw[aa hb3] at h;cbv;iterate 4 try(rw[hb3];cbv)
  obtain rfl:=Option.some.inj h;exact ARet.mk trivial hX.symm
 rw[ab hb3] at h;cbv;iterate 2 try(rw[hb3];cbv)
 obtain⟨x3,hx3,h⟩:=ah h;try dsimp only at h
 refine ACall.mk _ _ rfl (hF _ _ _ (jN hg ht hx3)) (.inl rfl) (nb rfl) ?_;cbv;iterate 2 try(rw[hb3];cbv)
 cases hb4:(le 0 x3)
 rotate_left
 ·rw[ab hb4] at h;cbv;iterate 3 try(rw[hb4];cbv)
  obtain rfl:=Option.some.inj h;exact ARet.mk trivial hX.symm
 rw[aa hb4] at h;cbv;iterate 3 try(rw[hb4];cbv)
 cases hb5:(eq a1_Kind 4)
 rotate_left
 ·rw[ab hb5] at h;cbv;obtain rfl:=Option.some.inj h;exact ARet.mk trivial hX.symm
 rw[aa hb5] at h;cbv
 cases hb6:(eq a2_Kind 2)
 ·rw[aa hb6] at h;cbv;iterate 3 try(rw[hb6];cbv)
  obtain⟨x10,hx10,h⟩:=ac h;obtain⟨x10_Place,x10_At⟩:=x10;try dsimp only at h
  refine ACall.mk _ _ rfl (hF _ _ _ (bX hg ht hx10)) (.inl rfl) (nb rfl) ?_;cbv;obtain⟨x11,hx11,h⟩:=ac h;obtain⟨x11_Place,x11_At⟩:=x11;try dsimp only at h
  refine ACall.mk _ _ rfl (hF _ _ _ (ca hg ht hx11)) (.inl rfl) (nb rfl) ?_;cbv;obtain⟨x12,hx12,h⟩:=ac h;try dsimp only at h
  refine ACall.mk _ _ rfl (hF _ _ _ (jg hg ht hx12)) (.inl rfl) (nb rfl) ?_;cbv;obtain rfl:=Option.some.inj h;exact ARet.mk trivial hX.symm
 rw[ab hb6] at h;cbv;iterate 3 try(rw[hb6];cbv)
 cases hb7:(eq a1_Kind 3)
 ·rw[aa hb7] at h;cbv;iterate 5 try(rw[hb7];cbv)
  obtain⟨x7,hx7,h⟩:=ac h;obtain⟨x7_Place,x7_At⟩:=x7;try dsimp only at h
  refine ACall.mk _ _ rfl (hF _ _ _ (bX hg ht hx7)) (.inl rfl) (nb rfl) ?_;cbv;obtain⟨x8,hx8,h⟩:=ac h;obtain⟨x8_Place,x8_At⟩:=x8;try dsimp only at h
  refine ACall.mk _ _ rfl (hF _ _ _ (ca hg ht hx8)) (.inl rfl) (nb rfl) ?_;cbv;obtain⟨x9,hx9,h⟩:=ac h;try dsimp only at h
  refine ACall.mk _ _ rfl (hF _ _ _ (jg hg ht hx9)) (.inl rfl) (nb rfl) ?_;cbv;obtain rfl:=Option.some.inj h;exact ARet.mk trivial hX.symm
 rw[ab hb7] at h;cbv;iterate 5 try(rw[hb7];cbv)
 cases hb8:(all [(eq a1_Trip_Leg a2_Trip_Leg),(eq a1_Trip_Day a2_Trip_Day)])
 rotate_left
 ·rw[ab hb8] at h;cbv;obtain rfl:=Option.some.inj h;exact ARet.mk trivial hX.symm
 rw[aa hb8] at h;cbv;obtain⟨x4,hx4,h⟩:=ac h;obtain⟨x4_Place,x4_At⟩:=x4;try dsimp only at h
 refine ACall.mk _ _ rfl (hF _ _ _ (bX hg ht hx4)) (.inl rfl) (nb rfl) ?_;cbv;obtain⟨x5,hx5,h⟩:=ac h;obtain⟨x5_Place,x5_At⟩:=x5;try dsimp only at h
 refine ACall.mk _ _ rfl (hF _ _ _ (ca hg ht hx5)) (.inl rfl) (nb rfl) ?_;cbv;obtain⟨x6,hx6,h⟩:=ac h;try dsimp only at h
 refine ACall.mk _ _ rfl (hF _ _ _ (jg hg ht hx6)) (.inl rfl) (nb rfl) ?_;cbv;obtain rfl:=Option.some.inj h;exact ARet.mk trivial hX.symm
def ir22:J:=js [jq 3 (.box 0),jq 6 (.mv (.k (.c (.n 6))))] [1,2,3] (js [jq 10 (.bsl 6 []),jm 7 10] [1,2,3,7] (.seq (js [jl 11 3 3,jm 12 1,jm 13 2,jc 14 43 [11,12,13],jq 15 (.len false 14),jm 16 (ki 0)] [3,7,14,15,16] (.bl 0 (js [jb 17 .lss .i 16 15] [3,7,14,15,16,17] (.seq (.cond 17 .skip (.exit 0)) (.seq (.block 1 (js [ja 18 6 14 16,jl 19 6 18,jq 9 (.alloc [.r (.v (.int .i64 0)),.r (.v (.int .i64 0)),.r (.v (.int .i64 0)),.r (.v (.string .empty)),.r (.v (.int .i64 0)),.r (.v (.int .i64 0))]),jp (.st 6 9 19)] [3,7,9,14,15,16] (.seq (.reg (some [[],[0],[0,1],[0,1,2],[0,1,2,3],[0,1,2,3],[0,1,2,3],[0,1,2,3,6],[0,1,2,3,6,7],[0,1,2,3,5,6,7,8],[0,1,2,3,5,6,7,8,9],[0,1,2,3],[0,1,2,3,4,5,6,7,8,9,10,11],[0,1,2,3,4,5,6,7,8,9,10,11,12]]) [jm 20 7,jq 21 (.len false 20),jb 22 .eql .i 21 (ki 0),jm 23 22,jv 24 23 (.ld true 3 3),jv 25 23 (.mv 7),jv 26 23 (.mv 7),jv 27 23 (.len false 26),jv 28 23 (.bin .sub .i 27 (ki 1)),jv 29 23 (.ia 6 25 28),jv 30 23 (.ld true 6 29),jv 31 23 (.ld true 6 9),jv 32 23 (.call 44 true [24,30,31]),jq 33 (.pick 23 kt 32)] [3,7,9,14,15,16,33]) (.cond 33 (.reg none [jm 34 7,jl 35 6 9,jq 36 (.bsl 6 [35]),jq 37 (.app 6 56 true 34 36),jm 7 37] [3,7,14,15,16]) .skip)))) (.reg none [jb 38 .add .i 16 (ki 1),jm 16 38] [3,7,14,15,16])))))) (js [jm 39 7,jm 6 39] [6] .ret)))
def rv22:List RV:=[.t 6]
def cC (g:G) (t:TE) (a0:Network) (x1:List Scan):Nat→Int→List Scan→Option (List Scan)
 |0,v1,w1=>
  some w1
 |n1+1,v1,w1=>
  gt x1 (g.nat v1) fun x2=>
  br (g.eq (g.int (g.dlen (t.d_Scan w1))) 0)
  (
   lP ([(Scan.mk x2.Thing x2.At x2.Kind x2.Place (Trip.mk x2.Trip.Leg x2.Trip.Day))]) fun(l2:List Scan)=>
   gd (((w1.length+l2.length)*56≤70368744177664))<|
   lP (w1++l2) fun(l3:List Scan)=>
   cC g t a0 x1 n1 (g.wrap .i64 (g.add v1 1)) l3)
  (
   gd (((0:Int)≤(g.wrap .i64 (g.sub (g.int (g.dlen (t.d_Scan w1))) 1))∧(g.wrap .i64 (g.sub (g.int (g.dlen (t.d_Scan w1))) 1))<(((g.dlen (t.d_Scan w1)):Nat):Int)))<|
   gt w1 (g.nat (g.wrap .i64 (g.sub (g.int (g.dlen (t.d_Scan w1))) 1))) fun x3=>
   cl (gW g t a0 (Scan.mk x3.Thing x3.At x3.Kind x3.Place (Trip.mk x3.Trip.Leg x3.Trip.Day)) (Scan.mk x2.Thing x2.At x2.Kind x2.Place (Trip.mk x2.Trip.Leg x2.Trip.Day))) fun x4=>
   br x4
   (
    lP ([(Scan.mk x2.Thing x2.At x2.Kind x2.Place (Trip.mk x2.Trip.Leg x2.Trip.Day))]) fun(l4:List Scan)=>
    gd (((w1.length+l4.length)*56≤70368744177664))<|
    lP (w1++l4) fun(l5:List Scan)=>
    cC g t a0 x1 n1 (g.wrap .i64 (g.add v1 1)) l5)
   (
    cC g t a0 x1 n1 (g.wrap .i64 (g.add v1 1)) w1))
def im (g:G) (t:TE) (a0:Network) (a1:List Scan) (a2:Int):Option (List Scan):=
 lP ([]) fun(l1:List Scan)=>
 cl (iq g t a0 a1 a2) fun x1=>
 gd (((g.int (g.dlen (t.d_Scan x1)))≤9223372036854775807))<|
 cl (cC g t a0 x1 (ap 0 (g.int (g.dlen (t.d_Scan x1)))) 0 l1) fun y1=>
 some y1
theorem py {g:G} {t:TE} {a0:Network} {a1:List Scan} {a2:Int} {r:List Scan} (hg:g=G.real) (ht:t=TE.real) (h:im g t a0 a1 a2=some r):Fn Tryz.prog 22 [.g (Network.rs t a0),.c (.s 6 (t.r_Scan a1)),.c (.v (.int .i64 a2))] (.c (.o 6 (t.d_Scan r))):=by
 obtain⟨X,hX⟩:=aE (.c (.o 6 (t.d_Scan r)):X);rw[←hX];refine aB (rvs:=rv22) (j:=ir22) Tryz.func22 rfl (by kernel_rfl) (nb rfl) (by kernel_rfl) af ?_;intro g2 F hg2 hF;obtain rfl:g2=g:=hg2.unique.trans hg.symm;clear hg2;obtain⟨wrap,lt,_,eq,_,_,_,_,_,_,_,_,int,add,_,_,_,_,_,_,_,_,_,_,dlen⟩:=g2;obtain⟨_,_,r_Leg,_,r_I64,_,_,d_Scan⟩:=t
 obtain⟨a0_Legs,a0_Off,a0_Change⟩:=a0;unfold im at h;try dsimp only at h
 cbv;obtain⟨l1,hl1,h⟩:=ah h;try dsimp only at h
 refine ANew.mk (d_Scan l1) (dlen (d_Scan l1)) (by rw[←hl1];exact aN hg ht []) (by rw[←hl1];exact aC hg ht []) ?_;cbv;obtain⟨x1,hx1,h⟩:=ac h;try dsimp only at h
 refine ACall.mk _ _ rfl (hF _ _ _ (wc hg ht hx1)) (.inl rfl) (nb rfl) ?_;cbv;obtain⟨hB1,h⟩:=aj h;obtain⟨o1,ho1,h⟩:=ac h;try dsimp only at h
 try rw[hg] at ho1
 try rw[ht] at ho1
 refine ABL.mk {p:Nat×Int×List Scan//p.1=ap p.2.1 (int (dlen (d_Scan x1)))∧0≤p.2.1∧cC G.real TE.real (Network.mk a0_Legs a0_Off a0_Change) x1 p.1 p.2.1 p.2.2=some o1} (fun⟨⟨n1,v1,w1⟩,_⟩=>({sl:=[(3,.c (.p 0 3 0 0)),(7,.c (.f 1 6 0 (dlen (d_Scan w1)))),(14,.c (.f 2 6 0 (dlen (d_Scan x1)))),(15,.c (.r (.v (.int .i64 (int (dlen (d_Scan x1))))))),(16,.c (.r (.v (.int .i64 v1))))],tab:=[(0,some (.foc 3 [] [.r (.s 6 (r_Leg a0_Legs)),.r (.s 1 (r_I64 a0_Off)),.r (.v (.int .i64 a0_Change))] [])),(1,some (.arr 6 (d_Scan w1))),(2,some (.arr 6 (d_Scan x1)))]}:St)) 3 (fun p=>p.1.1) ⟨(ap 0 (int (dlen (d_Scan x1))),0,l1),rfl,Int.le_refl _,ho1⟩ (List Scan) (fun y1=>({sl:=[(7,.c (.f 0 6 0 (dlen (d_Scan y1))))],tab:=[(0,some (.arr 6 (d_Scan y1)))]}:St)) 1 (fun y=>o1=y) ?_ ?_ ?_
 ·refine Wk.of [(0,some 0),(1,some 32),(2,some 112)] rfl rfl ?_ ?_
  ·cbv;all_goals exact⟨⟨_,rfl,rfl⟩,⟨_,rfl,rfl⟩,⟨_,rfl,rfl⟩,⟨_,rfl,rfl⟩,⟨_,rfl,rfl⟩,trivial⟩
  cbv;all_goals exact⟨⟨_,rfl,_,rfl,rfl,rfl,rfl,trivial⟩,⟨_,rfl,rfl⟩,⟨_,rfl,rfl⟩,trivial⟩
 ·rintro⟨⟨n1,v1,w1⟩,hn1,hi1,h_1⟩ hq1;try dsimp only at hn1 hi1 h_1
  clear hq1;cbv;rcases n1 with _|n1
  ·have hb1:lt v1 (int (dlen (d_Scan x1)))=false:=bc hg hn1;rw[cC] at h_1;try rw[←hg] at h_1
   try rw[←ht] at h_1
   try dsimp only at h_1
   rw[hb1];cbv;refine⟨w1,Wk.of [(0,some 1)] rfl rfl ?_ ?_,(Option.some.inj h_1).symm⟩
   ·cbv;all_goals exact⟨⟨_,rfl,rfl⟩,trivial⟩
   cbv;all_goals exact⟨⟨_,rfl,rfl⟩,trivial⟩
  have hb1:lt v1 (int (dlen (d_Scan x1)))=true:=bz hg hn1;have hl1:=dj hn1;have hs1:=cr hg hn1 hi1 hB1 (by decide);rw[cC] at h_1;try rw[←hg] at h_1
  try rw[←ht] at h_1
  try dsimp only at h_1
  rw[hb1];cbv;refine AStep.mk (dV hg hi1 hl1) ?_;cbv;obtain⟨x2,hx2,h_1⟩:=aP h_1;obtain⟨x2_Thing,x2_At,x2_Kind,x2_Place,⟨x2_Trip_Leg,x2_Trip_Day⟩⟩:=x2;try dsimp only at h_1
  refine AGet.mk _ (bo hg ht hx2) ?_;cbv
  cases hb2:(eq (int (dlen (d_Scan w1))) 0)
  rotate_left
  ·rw[ab hb2] at h_1;cbv;iterate 9 try(rw[hb2];cbv)
   obtain⟨l2,hl2,h_1⟩:=ah h_1;try dsimp only at h_1
   refine ANew.mk (d_Scan l2) (dlen (d_Scan l2)) (by rw[←hl2];exact aN hg ht [(Scan.mk x2_Thing x2_At x2_Kind x2_Place (Trip.mk x2_Trip_Leg x2_Trip_Day))]) (by rw[←hl2];exact aC hg ht [(Scan.mk x2_Thing x2_At x2_Kind x2_Place (Trip.mk x2_Trip_Leg x2_Trip_Day))]) ?_;cbv;obtain⟨hc1,h_1⟩:=aj h_1;refine AStep.mk ⟨⟨rfl,(ae hg ht _)⟩,(aA hg ht (ae hg ht _) rfl hc1)⟩ ?_;cbv;obtain⟨l3,hl3,h_1⟩:=ah h_1;try dsimp only at h_1
   refine ANew.mk (d_Scan l3) (dlen (d_Scan l3)) (by rw[←hl3];exact ba hg ht (ae hg ht _) rfl) (by rw[←hl3];exact aT hg ht (ae hg ht _) rfl) ?_;cbv;try rw[hg] at h_1
   try rw[ht] at h_1
   refine⟨⟨(n1,(wrap .i64 (add v1 1)),l3),hs1.1,hs1.2,h_1⟩,Wk.of [(0,some 0),(1,some 355),(2,some 2)] rfl rfl ?_ ?_,Nat.lt_succ_self _⟩
   ·cbv;all_goals exact⟨⟨_,rfl,rfl⟩,⟨_,rfl,rfl⟩,⟨_,rfl,rfl⟩,⟨_,rfl,rfl⟩,⟨_,rfl,rfl⟩,trivial⟩
   cbv;all_goals exact⟨⟨_,rfl,_,rfl,rfl,rfl,rfl,trivial⟩,⟨_,rfl,rfl⟩,⟨_,rfl,rfl⟩,trivial⟩
  rw[aa hb2] at h_1;cbv;iterate 5 try(rw[hb2];cbv)
  obtain⟨hc2,h_1⟩:=aj h_1;refine AStep.mk hc2 ?_;cbv;try(rw[hb2];cbv)
  obtain⟨x3,hx3,h_1⟩:=aP h_1;obtain⟨x3_Thing,x3_At,x3_Kind,x3_Place,⟨x3_Trip_Leg,x3_Trip_Day⟩⟩:=x3;try dsimp only at h_1
  refine AGet.mk _ (bo hg ht hx3) ?_;cbv;iterate 2 try(rw[hb2];cbv)
  obtain⟨x4,hx4,h_1⟩:=ac h_1;try dsimp only at h_1
  refine ACall.mk _ _ rfl (hF _ _ _ (rR hg ht hx4)) (.inl rfl) (nb rfl) ?_;cbv;try(rw[hb2];cbv)
  cases hb3:x4
  ·rw[aa hb3] at h_1;cbv;try rw[hg] at h_1
   try rw[ht] at h_1
   refine⟨⟨(n1,(wrap .i64 (add v1 1)),w1),hs1.1,hs1.2,h_1⟩,Wk.of [(0,some 0),(1,some 1),(2,some 2)] rfl rfl ?_ ?_,Nat.lt_succ_self _⟩
   ·cbv;all_goals exact⟨⟨_,rfl,rfl⟩,⟨_,rfl,rfl⟩,⟨_,rfl,rfl⟩,⟨_,rfl,rfl⟩,⟨_,rfl,rfl⟩,trivial⟩
   cbv;all_goals exact⟨⟨_,rfl,_,rfl,rfl,rfl,rfl,trivial⟩,⟨_,rfl,rfl⟩,⟨_,rfl,rfl⟩,trivial⟩
  rw[ab hb3] at h_1;cbv;obtain⟨l4,hl4,h_1⟩:=ah h_1;try dsimp only at h_1
  refine ANew.mk (d_Scan l4) (dlen (d_Scan l4)) (by rw[←hl4];exact aN hg ht [(Scan.mk x2_Thing x2_At x2_Kind x2_Place (Trip.mk x2_Trip_Leg x2_Trip_Day))]) (by rw[←hl4];exact aC hg ht [(Scan.mk x2_Thing x2_At x2_Kind x2_Place (Trip.mk x2_Trip_Leg x2_Trip_Day))]) ?_;cbv;obtain⟨hc3,h_1⟩:=aj h_1;refine AStep.mk ⟨⟨rfl,(ae hg ht _)⟩,(aA hg ht (ae hg ht _) rfl hc3)⟩ ?_;cbv;obtain⟨l5,hl5,h_1⟩:=ah h_1;try dsimp only at h_1
  refine ANew.mk (d_Scan l5) (dlen (d_Scan l5)) (by rw[←hl5];exact ba hg ht (ae hg ht _) rfl) (by rw[←hl5];exact aT hg ht (ae hg ht _) rfl) ?_;cbv;try rw[hg] at h_1
  try rw[ht] at h_1
  refine⟨⟨(n1,(wrap .i64 (add v1 1)),l5),hs1.1,hs1.2,h_1⟩,Wk.of [(0,some 0),(1,some 355),(2,some 2)] rfl rfl ?_ ?_,Nat.lt_succ_self _⟩
  ·cbv;all_goals exact⟨⟨_,rfl,rfl⟩,⟨_,rfl,rfl⟩,⟨_,rfl,rfl⟩,⟨_,rfl,rfl⟩,⟨_,rfl,rfl⟩,trivial⟩
  cbv;all_goals exact⟨⟨_,rfl,_,rfl,rfl,rfl,rfl,trivial⟩,⟨_,rfl,rfl⟩,⟨_,rfl,rfl⟩,trivial⟩
 rintro y1 hy1;replace hy1:=hy1.symm;subst hy1;try dsimp only[lr,lrL,lrp,a9] at h
 cbv;obtain rfl:=Option.some.inj h;exact ARet.mk ⟨rfl,(ae hg ht _)⟩ hX.symm
def ir7:J:=js [jq 4 (.box 0),jq 8 (.alloc [.r (.v (.int .i64 0)),.r (.v (.int .i64 0)),.r (.v (.int .i64 0)),.r (.v (.string .empty)),.r (.v (.int .i64 0)),.r (.v (.int .i64 0))]),jm 9 kf] [1,2,3,4,8] (js [jl 12 3 4,jm 13 1,jm 14 2,jc 15 22 [12,13,14],jm 10 15] [3,8,10] (.seq (js [jm 16 10,jq 17 (.len false 16),jb 18 .sub .i 17 (ki 1),jm 11 18] [3,8,10,11] (.bl 0 (.seq (js [jm 19 11,jb 20 .geq .i 19 (ki 0)] [3,8,10,11,20] (.cond 20 .skip (.exit 0))) (.seq (.block 1 (js [jm 23 10,jm 24 11,ja 25 6 23 24,jf 26 1 25,jk 27 26,jm 28 3,jb 29 .leq .i 27 28] [3,8,10,11,29] (.cond 29 (js [jm 30 10,jm 31 11,ja 32 6 30 31,jl 33 6 32,jp (.st 6 8 33),jm 9 kt] [8,9] .ret) .skip))) (.reg none [jm 21 11,jb 22 .sub .i 21 (ki 1),jm 11 22] [3,8,10,11]))))) (js [jq 34 (.bld [.r (.v (.int .i64 0)),.r (.v (.int .i64 0)),.r (.v (.int .i64 0)),.r (.v (.string .empty)),.r (.v (.int .i64 0)),.r (.v (.int .i64 0))] []),jp (.st 6 8 34),jm 9 kf] [8,9] .ret)))
def rv7:List RV:=[.c 8 true 6,.t 9]
def cY (g:G) (t:TE) (a3:Int) (x1:List Scan):Nat→Int→Option (LR (Scan×Bool) Unit)
 |0,_=>none
 |n1+1,v1=>
  br (g.le 0 v1)
  (
   gd (((0:Int)≤v1∧v1<(((g.dlen (t.d_Scan x1)):Nat):Int)))<|
   gt x1 (g.nat v1) fun x2=>
   br (g.le x2.At a3)
   (
    gd (((0:Int)≤v1∧v1<(((g.dlen (t.d_Scan x1)):Nat):Int)))<|
    some (LR.ret (((Scan.mk x2.Thing x2.At x2.Kind x2.Place (Trip.mk x2.Trip.Leg x2.Trip.Day)),true))))
   (
    cY g t a3 x1 n1 (g.wrap .i64 (g.sub v1 1))))
  (
   some (LR.out ()))
def gq (g:G) (t:TE) (a0:Network) (a1:List Scan) (a2:Int) (a3:Int):Option (Scan×Bool):=
 cl (im g t a0 a1 a2) fun x1=>
 cl (cY g t a3 x1 1000000000 (g.wrap .i64 (g.sub (g.int (g.dlen (t.d_Scan x1))) 1))) fun o1=>lr o1 fun y1=>
 some (((Scan.mk 0 0 0 ByteArray.empty (Trip.mk 0 0)),false))
theorem mY {g:G} {t:TE} {a0:Network} {a1:List Scan} {a2:Int} {a3:Int} {r:Scan×Bool} (hg:g=G.real) (ht:t=TE.real) (h:gq g t a0 a1 a2 a3=some r):Fn Tryz.prog 7 [.g (Network.rs t a0),.c (.s 6 (t.r_Scan a1)),.c (.v (.int .i64 a2)),.c (.v (.int .i64 a3))] (.u [.g (Scan.ds t r.1),.c (.r (.v (.bool r.2)))]):=by
 obtain⟨X,hX⟩:=aE (.u [.g (Scan.ds t r.1),.c (.r (.v (.bool r.2)))]:X);rw[←hX];refine aB (rvs:=rv7) (j:=ir7) Tryz.func7 rfl (by kernel_rfl) (nb rfl) (by kernel_rfl) af ?_;intro g2 F hg2 hF;obtain rfl:g2=g:=hg2.unique.trans hg.symm;clear hg2;obtain⟨wrap,_,le,_,_,_,_,_,_,_,_,_,int,_,sub,_,_,_,_,_,_,_,_,_,dlen⟩:=g2;obtain⟨_,_,_,_,_,_,_,d_Scan⟩:=t
 obtain⟨a0_Legs,a0_Off,a0_Change⟩:=a0;unfold gq at h;try dsimp only at h
 cbv;obtain⟨x1,hx1,h⟩:=ac h;try dsimp only at h
 refine ACall.mk _ _ rfl (hF _ _ _ (py hg ht hx1)) (.inl rfl) (nb rfl) ?_;cbv;obtain⟨o1,ho1,h⟩:=ac h;try dsimp only at h
 try rw[hg] at ho1
 try rw[ht] at ho1
 refine ABL.mk {p:Nat×Int//cY G.real TE.real a3 x1 p.1 p.2=some o1} (fun⟨⟨n1,v1⟩,_⟩=>({sl:=[(3,.c (.r (.v (.int .i64 a3)))),(8,.c (.p 0 6 0 0)),(10,.c (.f 1 6 0 (dlen (d_Scan x1)))),(11,.c (.r (.v (.int .i64 v1))))],tab:=[(0,some (.foc 6 [] [.r (.v (.int .i64 0)),.r (.v (.int .i64 0)),.r (.v (.int .i64 0)),.r (.v (.string ByteArray.empty)),.r (.v (.int .i64 0)),.r (.v (.int .i64 0))] [])),(1,some (.arr 6 (d_Scan x1)))]}:St)) 2 (fun p=>p.1.1) ⟨(1000000000,(wrap .i64 (sub (int (dlen (d_Scan x1))) 1))),ho1⟩ (Unit) (fun _=>({sl:=[(8,.c (.p 0 6 0 0))],tab:=[(0,some (.foc 6 [] [.r (.v (.int .i64 0)),.r (.v (.int .i64 0)),.r (.v (.int .i64 0)),.r (.v (.string ByteArray.empty)),.r (.v (.int .i64 0)),.r (.v (.int .i64 0))] []))]}:St)) 1 (fun y=>o1=LR.out y) ?_ ?_ ?_
 ·refine Wk.of [(0,some 16),(1,some 96)] rfl rfl ?_ ?_
  ·cbv;all_goals exact⟨⟨_,rfl,rfl⟩,⟨_,rfl,rfl⟩,⟨_,rfl,rfl⟩,⟨_,rfl,rfl⟩,trivial⟩
  cbv;all_goals exact⟨⟨_,rfl,_,rfl,rfl,rfl,rfl,rfl,rfl,rfl,trivial⟩,⟨_,rfl,rfl⟩,trivial⟩
 ·rintro⟨⟨n1,v1⟩,h_1⟩ hq1;try dsimp only at h_1
  clear hq1;rcases n1 with _|n1
  ·rw[cY] at h_1;cases h_1
  rw[cY] at h_1;try rw[←hg] at h_1
  try rw[←ht] at h_1
  try dsimp only at h_1
  cbv
  cases hb1:(le 0 v1)
  ·rw[aa hb1] at h_1;cbv;refine⟨(),Wk.of [(0,some 0)] rfl rfl ?_ ?_,(Option.some.inj h_1).symm⟩
   ·cbv;all_goals exact⟨⟨_,rfl,rfl⟩,trivial⟩
   cbv;all_goals exact⟨⟨_,rfl,_,rfl,rfl,rfl,rfl,rfl,rfl,rfl,trivial⟩,trivial⟩
  rw[ab hb1] at h_1;cbv;obtain⟨hc1,h_1⟩:=aj h_1;refine AStep.mk hc1 ?_;cbv;obtain⟨x2,hx2,h_1⟩:=aP h_1;obtain⟨x2_Thing,x2_At,x2_Kind,x2_Place,⟨x2_Trip_Leg,x2_Trip_Day⟩⟩:=x2;try dsimp only at h_1
  refine AGet.mk _ (bo hg ht hx2) ?_;cbv
  cases hb2:(le x2_At a3)
  rotate_left
  ·rw[ab hb2] at h_1;cbv;obtain⟨hc2,h_1⟩:=aj h_1;refine AStep.mk hc2 ?_;cbv;refine AGet.mk _ (bo hg ht hx2) ?_;cbv;obtain rfl:=Option.some.inj h_1;try dsimp only[lr,lrL,lrp,a9] at h
   obtain rfl:=Option.some.inj h;exact ARet.mk trivial hX.symm
  rw[aa hb2] at h_1;cbv;try rw[hg] at h_1
  try rw[ht] at h_1
  refine⟨⟨(n1,(wrap .i64 (sub v1 1))),h_1⟩,Wk.of [(0,some 0),(1,some 1)] rfl rfl ?_ ?_,Nat.lt_succ_self _⟩
  ·cbv;all_goals exact⟨⟨_,rfl,rfl⟩,⟨_,rfl,rfl⟩,⟨_,rfl,rfl⟩,⟨_,rfl,rfl⟩,trivial⟩
  cbv;all_goals exact⟨⟨_,rfl,_,rfl,rfl,rfl,rfl,rfl,rfl,rfl,trivial⟩,⟨_,rfl,rfl⟩,trivial⟩
 rintro _ hy1;replace hy1:=hy1.symm;subst hy1;try dsimp only[lr,lrL,lrp,a9] at h
 cbv;obtain rfl:=Option.some.inj h;exact ARet.mk trivial hX.symm
def ir36:J:=js [jq 4 (.box 0),jq 8 (.alloc [.r (.v (.int .i64 0)),.r (.v (.int .i64 0)),.r (.v (.int .i64 0)),.r (.v (.string .empty)),.r (.v (.int .i64 0)),.r (.v (.int .i64 0))]),jm 9 kf] [1,2,3,4,8] (.seq (js [jl 12 3 4,jm 13 1,jm 14 2,jc 15 22 [12,13,14],jq 16 (.len false 15),jm 17 (ki 0)] [3,8,15,16,17] (.bl 0 (js [jb 18 .lss .i 17 16] [3,8,15,16,17,18] (.seq (.cond 18 .skip (.exit 0)) (.seq (.block 1 (js [ja 19 6 15 17,jl 20 6 19,jq 11 (.alloc [.r (.v (.int .i64 0)),.r (.v (.int .i64 0)),.r (.v (.int .i64 0)),.r (.v (.string .empty)),.r (.v (.int .i64 0)),.r (.v (.int .i64 0))]),jp (.st 6 11 20)] [3,8,11,15,16,17] (js [jf 21 1 11,jk 22 21,jm 23 3,jb 24 .gtr .i 22 23] [3,8,11,15,16,17,24] (.cond 24 (js [jl 25 6 11,jp (.st 6 8 25),jm 9 kt] [8,9] .ret) .skip)))) (.reg none [jb 26 .add .i 17 (ki 1),jm 17 26] [3,8,15,16,17])))))) (js [jq 27 (.bld [.r (.v (.int .i64 0)),.r (.v (.int .i64 0)),.r (.v (.int .i64 0)),.r (.v (.string .empty)),.r (.v (.int .i64 0)),.r (.v (.int .i64 0))] []),jp (.st 6 8 27),jm 9 kf] [8,9] .ret))
def rv36:List RV:=[.c 8 true 6,.t 9]
def c9 (g:G) (t:TE) (a3:Int) (x1:List Scan):Nat→Int→Option (LR (Scan×Bool) Unit)
 |0,v1=>
  some (LR.out ())
 |n1+1,v1=>
  gt x1 (g.nat v1) fun x2=>
  br (g.lt a3 x2.At)
  (
   some (LR.ret (((Scan.mk x2.Thing x2.At x2.Kind x2.Place (Trip.mk x2.Trip.Leg x2.Trip.Day)),true))))
  (
   c9 g t a3 x1 n1 (g.wrap .i64 (g.add v1 1)))
def iJ (g:G) (t:TE) (a0:Network) (a1:List Scan) (a2:Int) (a3:Int):Option (Scan×Bool):=
 cl (im g t a0 a1 a2) fun x1=>
 gd (((g.int (g.dlen (t.d_Scan x1)))≤9223372036854775807))<|
 cl (c9 g t a3 x1 (ap 0 (g.int (g.dlen (t.d_Scan x1)))) 0) fun o1=>lr o1 fun y1=>
 some (((Scan.mk 0 0 0 ByteArray.empty (Trip.mk 0 0)),false))
theorem tE {g:G} {t:TE} {a0:Network} {a1:List Scan} {a2:Int} {a3:Int} {r:Scan×Bool} (hg:g=G.real) (ht:t=TE.real) (h:iJ g t a0 a1 a2 a3=some r):Fn Tryz.prog 36 [.g (Network.rs t a0),.c (.s 6 (t.r_Scan a1)),.c (.v (.int .i64 a2)),.c (.v (.int .i64 a3))] (.u [.g (Scan.ds t r.1),.c (.r (.v (.bool r.2)))]):=by
 obtain⟨X,hX⟩:=aE (.u [.g (Scan.ds t r.1),.c (.r (.v (.bool r.2)))]:X);rw[←hX];refine aB (rvs:=rv36) (j:=ir36) Tryz.func36 rfl (by kernel_rfl) (nb rfl) (by kernel_rfl) af ?_;intro g2 F hg2 hF;obtain rfl:g2=g:=hg2.unique.trans hg.symm;clear hg2;obtain⟨wrap,lt,_,_,_,_,_,_,_,_,_,_,int,add,_,_,_,_,_,_,_,_,_,_,dlen⟩:=g2;obtain⟨_,_,_,_,_,_,_,d_Scan⟩:=t
 obtain⟨a0_Legs,a0_Off,a0_Change⟩:=a0;unfold iJ at h;try dsimp only at h
 cbv;obtain⟨x1,hx1,h⟩:=ac h;try dsimp only at h
 refine ACall.mk _ _ rfl (hF _ _ _ (py hg ht hx1)) (.inl rfl) (nb rfl) ?_;cbv;obtain⟨hB1,h⟩:=aj h;obtain⟨o1,ho1,h⟩:=ac h;try dsimp only at h
 try rw[hg] at ho1
 try rw[ht] at ho1
 refine ABL.mk {p:Nat×Int//p.1=ap p.2 (int (dlen (d_Scan x1)))∧0≤p.2∧c9 G.real TE.real a3 x1 p.1 p.2=some o1} (fun⟨⟨n1,v1⟩,_⟩=>({sl:=[(3,.c (.r (.v (.int .i64 a3)))),(8,.c (.p 0 6 0 0)),(15,.c (.f 1 6 0 (dlen (d_Scan x1)))),(16,.c (.r (.v (.int .i64 (int (dlen (d_Scan x1))))))),(17,.c (.r (.v (.int .i64 v1))))],tab:=[(0,some (.foc 6 [] [.r (.v (.int .i64 0)),.r (.v (.int .i64 0)),.r (.v (.int .i64 0)),.r (.v (.string ByteArray.empty)),.r (.v (.int .i64 0)),.r (.v (.int .i64 0))] [])),(1,some (.arr 6 (d_Scan x1)))]}:St)) 2 (fun p=>p.1.1) ⟨(ap 0 (int (dlen (d_Scan x1))),0),rfl,Int.le_refl _,ho1⟩ (Unit) (fun _=>({sl:=[(8,.c (.p 0 6 0 0))],tab:=[(0,some (.foc 6 [] [.r (.v (.int .i64 0)),.r (.v (.int .i64 0)),.r (.v (.int .i64 0)),.r (.v (.string ByteArray.empty)),.r (.v (.int .i64 0)),.r (.v (.int .i64 0))] []))]}:St)) 1 (fun y=>o1=LR.out y) ?_ ?_ ?_
 ·refine Wk.of [(0,some 16),(1,some 96)] rfl rfl ?_ ?_
  ·cbv;all_goals exact⟨⟨_,rfl,rfl⟩,⟨_,rfl,rfl⟩,⟨_,rfl,rfl⟩,⟨_,rfl,rfl⟩,⟨_,rfl,rfl⟩,trivial⟩
  cbv;all_goals exact⟨⟨_,rfl,_,rfl,rfl,rfl,rfl,rfl,rfl,rfl,trivial⟩,⟨_,rfl,rfl⟩,trivial⟩
 ·rintro⟨⟨n1,v1⟩,hn1,hi1,h_1⟩ hq1;try dsimp only at hn1 hi1 h_1
  clear hq1;cbv;rcases n1 with _|n1
  ·have hb1:lt v1 (int (dlen (d_Scan x1)))=false:=bc hg hn1;rw[c9] at h_1;try rw[←hg] at h_1
   try rw[←ht] at h_1
   try dsimp only at h_1
   rw[hb1];cbv;refine⟨(),Wk.of [(0,some 0)] rfl rfl ?_ ?_,(Option.some.inj h_1).symm⟩
   ·cbv;all_goals exact⟨⟨_,rfl,rfl⟩,trivial⟩
   cbv;all_goals exact⟨⟨_,rfl,_,rfl,rfl,rfl,rfl,rfl,rfl,rfl,trivial⟩,trivial⟩
  have hb1:lt v1 (int (dlen (d_Scan x1)))=true:=bz hg hn1;have hl1:=dj hn1;have hs1:=cr hg hn1 hi1 hB1 (by decide);rw[c9] at h_1;try rw[←hg] at h_1
  try rw[←ht] at h_1
  try dsimp only at h_1
  rw[hb1];cbv;refine AStep.mk (dV hg hi1 hl1) ?_;cbv;obtain⟨x2,hx2,h_1⟩:=aP h_1;obtain⟨x2_Thing,x2_At,x2_Kind,x2_Place,⟨x2_Trip_Leg,x2_Trip_Day⟩⟩:=x2;try dsimp only at h_1
  refine AGet.mk _ (bo hg ht hx2) ?_;cbv
  cases hb2:(lt a3 x2_At)
  rotate_left
  ·rw[ab hb2] at h_1;cbv;obtain rfl:=Option.some.inj h_1;try dsimp only[lr,lrL,lrp,a9] at h
   obtain rfl:=Option.some.inj h;exact ARet.mk trivial hX.symm
  rw[aa hb2] at h_1;cbv;try rw[hg] at h_1
  try rw[ht] at h_1
  refine⟨⟨(n1,(wrap .i64 (add v1 1))),hs1.1,hs1.2,h_1⟩,Wk.of [(0,some 0),(1,some 1)] rfl rfl ?_ ?_,Nat.lt_succ_self _⟩
  ·cbv;all_goals exact⟨⟨_,rfl,rfl⟩,⟨_,rfl,rfl⟩,⟨_,rfl,rfl⟩,⟨_,rfl,rfl⟩,⟨_,rfl,rfl⟩,trivial⟩
  cbv;all_goals exact⟨⟨_,rfl,_,rfl,rfl,rfl,rfl,rfl,rfl,rfl,trivial⟩,⟨_,rfl,rfl⟩,trivial⟩
 rintro _ hy1;replace hy1:=hy1.symm;subst hy1;try dsimp only[lr,lrL,lrp,a9] at h
 cbv;obtain rfl:=Option.some.inj h;exact ARet.mk trivial hX.symm
def ir17:J:=js [jq 4 (.box 0),jq 8 (.alloc [.n 6,.n 1,.r (.v (.int .i64 0)),.r (.v (.int .i64 0)),.r (.v (.bool false)),.r (.v (.string .empty)),.r (.v (.int .i64 0)),.r (.v (.int .i64 0)),.r (.v (.bool false)),.r (.v (.bool false)),.r (.v (.string .empty)),.r (.v (.int .i64 0)),.r (.v (.string .empty)),.r (.v (.int .i64 0)),.r (.v (.bool false))])] [1,2,3,4,8] (js [jl 14 3 4,jm 15 3,jq 16 (.bld [.n 6,.n 1,.r (.v (.int .i64 0)),.r (.v (.int .i64 0)),.r (.v (.bool false)),.r (.v (.string .empty)),.r (.v (.int .i64 0)),.r (.v (.int .i64 0)),.r (.v (.bool false)),.r (.v (.bool false)),.r (.v (.string .empty)),.r (.v (.int .i64 0)),.r (.v (.string .empty)),.r (.v (.int .i64 0)),.r (.v (.bool false))] [(0,3,14),(3,1,15)]),jq 9 (.alloc [.n 6,.n 1,.r (.v (.int .i64 0)),.r (.v (.int .i64 0)),.r (.v (.bool false)),.r (.v (.string .empty)),.r (.v (.int .i64 0)),.r (.v (.int .i64 0)),.r (.v (.bool false)),.r (.v (.bool false)),.r (.v (.string .empty)),.r (.v (.int .i64 0)),.r (.v (.string .empty)),.r (.v (.int .i64 0)),.r (.v (.bool false))]),jp (.st 15 9 16)] [1,2,3,4,8,9] (js [jl 18 3 4,jm 19 1,jm 20 2,jm 21 3,jc 22 7 [18,19,20,21],jm 17 22,jq 23 (.ext 0 17),jq 24 (.ext 1 17),jq 10 (.alloc [.r (.v (.int .i64 0)),.r (.v (.int .i64 0)),.r (.v (.int .i64 0)),.r (.v (.string .empty)),.r (.v (.int .i64 0)),.r (.v (.int .i64 0))]),jp (.st 6 10 23),jm 11 24] [1,2,3,4,8,9,10,11] (js [jl 26 3 4,jm 27 1,jm 28 2,jm 29 3,jc 30 36 [26,27,28,29],jm 25 30,jq 31 (.ext 0 25),jq 32 (.ext 1 25),jq 12 (.alloc [.r (.v (.int .i64 0)),.r (.v (.int .i64 0)),.r (.v (.int .i64 0)),.r (.v (.string .empty)),.r (.v (.int .i64 0)),.r (.v (.int .i64 0))]),jp (.st 6 12 31),jm 13 32] [3,4,8,9,10,11,12,13] (.seq (.block 0 (js [jm 45 11,jq 46 (.not 45),jm 47 46,jv 48 47 (.fa 2 10),jv 49 47 (.ld false 1 48),jv 50 47 (.bin .eql .i 49 (ki 4)),jq 51 (.pick 47 kt 50),jm 44 51] [3,4,8,9,10,12,13,44] (.cond 44 (js [jl 52 15 9,jp (.st 15 8 52)] [8] .ret) (js [jm 54 13,jm 55 54,ju 56 55 (.fa 2 12),ju 57 55 (.ld false 1 56),ju 58 55 (.bin .eql .i 57 (ki 2)),jq 59 (.pick 55 58 kf),jm 60 59,ju 61 60 (.ld true 3 4),ju 62 60 (.fa 4 12),ju 63 60 (.ld true 2 62),ju 64 60 (.call 37 true [61,63]),ju 65 60 (.mv 3),ju 66 60 (.bin .leq .i 64 65),jq 67 (.pick 60 66 kf),jm 53 67] [3,4,8,9,10,12,13,53] (.cond 53 (js [jf 68 4 9,jp (.st 1 68 kt)] [3,4,8,9,12] (js [jm 69 3,jl 70 3 4,jf 71 4 12,jl 72 2 71,jc 73 38 [70,72],jb 74 .lss .i 69 73,jf 75 8 9,jp (.st 1 75 74)] [4,8,9,12] (js [jf 76 4 12,jl 77 2 76,jf 78 6 9,jp (.st 2 78 77)] [4,8,9,12] (.reg none [jf 79 0 4,jk 80 79,jf 81 4 12,jf 82 0 81,jk 83 82,ja 84 6 80 83,jf 85 1 84,jk 86 85,jf 87 5 9,jp (.st 1 87 86)] [8,9])))) (js [jf 89 2 10,jk 90 89,jb 91 .eql .i 90 (ki 3),jm 92 91,ju 93 92 (.ld true 3 4),ju 94 92 (.fa 4 10),ju 95 92 (.ld true 2 94),ju 96 92 (.call 38 true [93,95]),
 ju 97 92 (.mv 3),ju 98 92 (.bin .gtr .i 96 97),jq 99 (.pick 92 98 kf),jm 88 99] [3,4,8,9,10,12,13,88] (.cond 88 (js [jf 100 4 9,jp (.st 1 100 kt)] [3,4,8,9,10] (js [jl 101 3 4,jf 102 4 10,jl 103 2 102,jc 104 37 [101,103],jm 105 3,jb 106 .leq .i 104 105,jf 107 8 9,jp (.st 1 107 106)] [4,8,9,10] (js [jf 108 4 10,jl 109 2 108,jf 110 6 9,jp (.st 2 110 109)] [4,8,9,10] (.reg none [jf 111 0 4,jk 112 111,jf 113 4 10,jf 114 0 113,jk 115 114,ja 116 6 112 115,jf 117 0 116,jk 118 117,jf 119 5 9,jp (.st 1 119 118)] [8,9])))) (js [jf 33 9 9,jp (.st 1 33 kt)] [4,8,9,10,12,13] (js [jl 34 3 4,jl 35 6 10,jc 36 39 [34,35],jf 37 10 9,jp (.st 2 37 36)] [4,8,9,12,13] (js [jm 38 13,jf 39 14 9,jp (.st 1 39 38)] [4,8,9,12] (.reg none [jl 40 3 4,jl 41 6 12,jc 42 40 [40,41],jf 43 12 9,jp (.st 2 43 42)] [8,9]))))))))))) (js [jl 120 15 9,jp (.st 15 8 120)] [8] .ret)))))
def rv17:List RV:=[.c 8 true 15]
def ig (g:G) (t:TE) (a0:Network) (a1:List Scan) (a2:Int) (a3:Int):Option Know:=
 cl (gq g t a0 a1 a2 a3) fun x1=>
 cl (iJ g t a0 a1 a2 a3) fun x2=>
 br x1.2
 (
  br (g.eq x1.1.Kind 4)
  (
   some (Know.mk a0 a3 false ByteArray.empty (Trip.mk 0 0) false false (Spot.mk ByteArray.empty 0) (Spot.mk ByteArray.empty 0) false))
  (
   br x2.2
   (
    br (g.eq x2.1.Kind 2)
    (
     cl (cO g t a0 (Trip.mk x2.1.Trip.Leg x2.1.Trip.Day)) fun x3=>
     br (g.le x3 a3)
     (
      cl (fi g t a0 (Trip.mk x2.1.Trip.Leg x2.1.Trip.Day)) fun x4=>
      gd (((0:Int)≤x2.1.Trip.Leg))<|
      gt a0.Legs (g.nat x2.1.Trip.Leg) fun x5=>
      some (Know.mk a0 a3 true x5.To (Trip.mk x2.1.Trip.Leg x2.1.Trip.Day) (g.lt a3 x4) false (Spot.mk ByteArray.empty 0) (Spot.mk ByteArray.empty 0) false))
     (
      br (g.eq x1.1.Kind 3)
      (
       cl (fi g t a0 (Trip.mk x1.1.Trip.Leg x1.1.Trip.Day)) fun x6=>
       br (g.lt a3 x6)
       (
        cl (cO g t a0 (Trip.mk x1.1.Trip.Leg x1.1.Trip.Day)) fun x7=>
        gd (((0:Int)≤x1.1.Trip.Leg))<|
        gt a0.Legs (g.nat x1.1.Trip.Leg) fun x8=>
        some (Know.mk a0 a3 true x8.From (Trip.mk x1.1.Trip.Leg x1.1.Trip.Day) (g.le x7 a3) false (Spot.mk ByteArray.empty 0) (Spot.mk ByteArray.empty 0) false))
       (
        cl (bu g t a0 (Scan.mk x1.1.Thing x1.1.At x1.1.Kind x1.1.Place (Trip.mk x1.1.Trip.Leg x1.1.Trip.Day))) fun x9=>
        cl (bw g t a0 (Scan.mk x2.1.Thing x2.1.At x2.1.Kind x2.1.Place (Trip.mk x2.1.Trip.Leg x2.1.Trip.Day))) fun x10=>
        some (Know.mk a0 a3 false ByteArray.empty (Trip.mk 0 0) false true x9 x10 x2.2)))
      (
       cl (bu g t a0 (Scan.mk x1.1.Thing x1.1.At x1.1.Kind x1.1.Place (Trip.mk x1.1.Trip.Leg x1.1.Trip.Day))) fun x11=>
       cl (bw g t a0 (Scan.mk x2.1.Thing x2.1.At x2.1.Kind x2.1.Place (Trip.mk x2.1.Trip.Leg x2.1.Trip.Day))) fun x12=>
       some (Know.mk a0 a3 false ByteArray.empty (Trip.mk 0 0) false true x11 x12 x2.2))))
    (
     br (g.eq x1.1.Kind 3)
     (
      cl (fi g t a0 (Trip.mk x1.1.Trip.Leg x1.1.Trip.Day)) fun x13=>
      br (g.lt a3 x13)
      (
       cl (cO g t a0 (Trip.mk x1.1.Trip.Leg x1.1.Trip.Day)) fun x14=>
       gd (((0:Int)≤x1.1.Trip.Leg))<|
       gt a0.Legs (g.nat x1.1.Trip.Leg) fun x15=>
       some (Know.mk a0 a3 true x15.From (Trip.mk x1.1.Trip.Leg x1.1.Trip.Day) (g.le x14 a3) false (Spot.mk ByteArray.empty 0) (Spot.mk ByteArray.empty 0) false))
      (
       cl (bu g t a0 (Scan.mk x1.1.Thing x1.1.At x1.1.Kind x1.1.Place (Trip.mk x1.1.Trip.Leg x1.1.Trip.Day))) fun x16=>
       cl (bw g t a0 (Scan.mk x2.1.Thing x2.1.At x2.1.Kind x2.1.Place (Trip.mk x2.1.Trip.Leg x2.1.Trip.Day))) fun x17=>
       some (Know.mk a0 a3 false ByteArray.empty (Trip.mk 0 0) false true x16 x17 x2.2)))
     (
      cl (bu g t a0 (Scan.mk x1.1.Thing x1.1.At x1.1.Kind x1.1.Place (Trip.mk x1.1.Trip.Leg x1.1.Trip.Day))) fun x18=>
      cl (bw g t a0 (Scan.mk x2.1.Thing x2.1.At x2.1.Kind x2.1.Place (Trip.mk x2.1.Trip.Leg x2.1.Trip.Day))) fun x19=>
      some (Know.mk a0 a3 false ByteArray.empty (Trip.mk 0 0) false true x18 x19 x2.2))))
   (
    br (g.eq x1.1.Kind 3)
    (
     cl (fi g t a0 (Trip.mk x1.1.Trip.Leg x1.1.Trip.Day)) fun x20=>
     br (g.lt a3 x20)
     (
      cl (cO g t a0 (Trip.mk x1.1.Trip.Leg x1.1.Trip.Day)) fun x21=>
      gd (((0:Int)≤x1.1.Trip.Leg))<|
      gt a0.Legs (g.nat x1.1.Trip.Leg) fun x22=>
      some (Know.mk a0 a3 true x22.From (Trip.mk x1.1.Trip.Leg x1.1.Trip.Day) (g.le x21 a3) false (Spot.mk ByteArray.empty 0) (Spot.mk ByteArray.empty 0) false))
     (
      cl (bu g t a0 (Scan.mk x1.1.Thing x1.1.At x1.1.Kind x1.1.Place (Trip.mk x1.1.Trip.Leg x1.1.Trip.Day))) fun x23=>
      cl (bw g t a0 (Scan.mk x2.1.Thing x2.1.At x2.1.Kind x2.1.Place (Trip.mk x2.1.Trip.Leg x2.1.Trip.Day))) fun x24=>
      some (Know.mk a0 a3 false ByteArray.empty (Trip.mk 0 0) false true x23 x24 x2.2)))
    (
     cl (bu g t a0 (Scan.mk x1.1.Thing x1.1.At x1.1.Kind x1.1.Place (Trip.mk x1.1.Trip.Leg x1.1.Trip.Day))) fun x25=>
     cl (bw g t a0 (Scan.mk x2.1.Thing x2.1.At x2.1.Kind x2.1.Place (Trip.mk x2.1.Trip.Leg x2.1.Trip.Day))) fun x26=>
     some (Know.mk a0 a3 false ByteArray.empty (Trip.mk 0 0) false true x25 x26 x2.2)))))
 (
  some (Know.mk a0 a3 false ByteArray.empty (Trip.mk 0 0) false false (Spot.mk ByteArray.empty 0) (Spot.mk ByteArray.empty 0) false))
theorem oZ {g:G} {t:TE} {a0:Network} {a1:List Scan} {a2:Int} {a3:Int} {r:Know} (hg:g=G.real) (ht:t=TE.real) (h:ig g t a0 a1 a2 a3=some r):Fn Tryz.prog 17 [.g (Network.rs t a0),.c (.s 6 (t.r_Scan a1)),.c (.v (.int .i64 a2)),.c (.v (.int .i64 a3))] (.g (Know.ds t r)):=by
 obtain⟨X,hX⟩:=aE (.g (Know.ds t r):X);rw[←hX];refine aB (rvs:=rv17) (j:=ir17) Tryz.func17 rfl (by kernel_rfl) (nb rfl) (by kernel_rfl) af ?_;intro g2 F hg2 hF;obtain rfl:g2=g:=hg2.unique.trans hg.symm;clear hg2;obtain⟨_,lt,le,eq⟩:=g2;obtain⟨_⟩:=t
 obtain⟨a0_Legs,a0_Off,a0_Change⟩:=a0;unfold ig at h;try dsimp only at h
 cbv;obtain⟨x1,hx1,h⟩:=ac h;obtain⟨⟨x1_1_Thing,x1_1_At,x1_1_Kind,x1_1_Place,⟨x1_1_Trip_Leg,x1_1_Trip_Day⟩⟩,x1_2⟩:=x1;try dsimp only at h
 refine ACall.mk _ _ rfl (hF _ _ _ (mY hg ht hx1)) (.inl rfl) (nb rfl) ?_;cbv;obtain⟨x2,hx2,h⟩:=ac h;obtain⟨⟨x2_1_Thing,x2_1_At,x2_1_Kind,x2_1_Place,⟨x2_1_Trip_Leg,x2_1_Trip_Day⟩⟩,x2_2⟩:=x2;try dsimp only at h
 refine ACall.mk _ _ rfl (hF _ _ _ (tE hg ht hx2)) (.inl rfl) (nb rfl) ?_;cbv;have hb1:x1_2=true∨x1_2=false:=by cases x1_2<;>simp
 rcases hb1 with hb1|hb1
 ·rw[ab hb1] at h;have hK_:=h;subst hb1;have h:=hK_;clear hK_;cbv;iterate 3 try(rw[hb1];cbv)
  cases hb2:(eq x1_1_Kind 4)
  rotate_left
  ·rw[ab hb2] at h;cbv;obtain rfl:=Option.some.inj h;exact ARet.mk trivial hX.symm
  rw[aa hb2] at h;cbv;have hb3:x2_2=true∨x2_2=false:=by cases x2_2<;>simp
  rcases hb3 with hb3|hb3
  ·rw[ab hb3] at h;have hK_:=h;subst hb3;have h:=hK_;clear hK_;cbv;iterate 3 try(rw[hb3];cbv)
   cases hb4:(eq x2_1_Kind 2)
   ·rw[aa hb4] at h;cbv;iterate 6 try(rw[hb4];cbv)
    cases hb8:(eq x1_1_Kind 3)
    ·rw[aa hb8] at h;cbv;iterate 6 try(rw[hb8];cbv)
     obtain⟨x18,hx18,h⟩:=ac h;obtain⟨x18_Place,x18_At⟩:=x18;try dsimp only at h
     refine ACall.mk _ _ rfl (hF _ _ _ (bX hg ht hx18)) (.inl rfl) (nb rfl) ?_;cbv;obtain⟨x19,hx19,h⟩:=ac h;obtain⟨x19_Place,x19_At⟩:=x19;try dsimp only at h
     refine ACall.mk _ _ rfl (hF _ _ _ (ca hg ht hx19)) (.inl rfl) (nb rfl) ?_;cbv;obtain rfl:=Option.some.inj h;exact ARet.mk trivial hX.symm
    rw[ab hb8] at h;cbv;iterate 3 try(rw[hb8];cbv)
    obtain⟨x13,hx13,h⟩:=ac h;try dsimp only at h
    refine ACall.mk _ _ rfl (hF _ _ _ (eL hg ht hx13)) (.inl rfl) (nb rfl) ?_;cbv;iterate 3 try(rw[hb8];cbv)
    cases hb9:(lt a3 x13)
    ·rw[aa hb9] at h;cbv;obtain⟨x16,hx16,h⟩:=ac h;obtain⟨x16_Place,x16_At⟩:=x16;try dsimp only at h
     refine ACall.mk _ _ rfl (hF _ _ _ (bX hg ht hx16)) (.inl rfl) (nb rfl) ?_;cbv;obtain⟨x17,hx17,h⟩:=ac h;obtain⟨x17_Place,x17_At⟩:=x17;try dsimp only at h
     refine ACall.mk _ _ rfl (hF _ _ _ (ca hg ht hx17)) (.inl rfl) (nb rfl) ?_;cbv;obtain rfl:=Option.some.inj h;exact ARet.mk trivial hX.symm
    rw[ab hb9] at h;cbv;obtain⟨x14,hx14,h⟩:=ac h;try dsimp only at h
    refine ACall.mk _ _ rfl (hF _ _ _ (de hg ht hx14)) (.inl rfl) (nb rfl) ?_;cbv;obtain⟨hc3,h⟩:=aj h;refine AStep.mk hc3 ?_;cbv;obtain⟨x15,hx15,h⟩:=aP h;obtain⟨x15_From,x15_To,x15_Start,x15_Takes,x15_Days,x15_Room⟩:=x15;try dsimp only at h
    refine AGet.mk _ (bm hg ht hx15) ?_;cbv;obtain rfl:=Option.some.inj h;exact ARet.mk trivial hX.symm
   rw[ab hb4] at h;cbv;iterate 3 try(rw[hb4];cbv)
   obtain⟨x3,hx3,h⟩:=ac h;try dsimp only at h
   refine ACall.mk _ _ rfl (hF _ _ _ (de hg ht hx3)) (.inl rfl) (nb rfl) ?_;cbv;iterate 3 try(rw[hb4];cbv)
   cases hb5:(le x3 a3)
   rotate_left
   ·rw[ab hb5] at h;cbv;obtain⟨x4,hx4,h⟩:=ac h;try dsimp only at h
    refine ACall.mk _ _ rfl (hF _ _ _ (eL hg ht hx4)) (.inl rfl) (nb rfl) ?_;cbv;obtain⟨hc1,h⟩:=aj h;refine AStep.mk hc1 ?_;cbv;obtain⟨x5,hx5,h⟩:=aP h;obtain⟨x5_From,x5_To,x5_Start,x5_Takes,x5_Days,x5_Room⟩:=x5;try dsimp only at h
    refine AGet.mk _ (bm hg ht hx5) ?_;cbv;obtain rfl:=Option.some.inj h;exact ARet.mk trivial hX.symm
   rw[aa hb5] at h;cbv
   cases hb6:(eq x1_1_Kind 3)
   ·rw[aa hb6] at h;cbv;iterate 6 try(rw[hb6];cbv)
    obtain⟨x11,hx11,h⟩:=ac h;obtain⟨x11_Place,x11_At⟩:=x11;try dsimp only at h
    refine ACall.mk _ _ rfl (hF _ _ _ (bX hg ht hx11)) (.inl rfl) (nb rfl) ?_;cbv;obtain⟨x12,hx12,h⟩:=ac h;obtain⟨x12_Place,x12_At⟩:=x12;try dsimp only at h
    refine ACall.mk _ _ rfl (hF _ _ _ (ca hg ht hx12)) (.inl rfl) (nb rfl) ?_;cbv;obtain rfl:=Option.some.inj h;exact ARet.mk trivial hX.symm
   rw[ab hb6] at h;cbv;iterate 3 try(rw[hb6];cbv)
   obtain⟨x6,hx6,h⟩:=ac h;try dsimp only at h
   refine ACall.mk _ _ rfl (hF _ _ _ (eL hg ht hx6)) (.inl rfl) (nb rfl) ?_;cbv;iterate 3 try(rw[hb6];cbv)
   cases hb7:(lt a3 x6)
   ·rw[aa hb7] at h;cbv;obtain⟨x9,hx9,h⟩:=ac h;obtain⟨x9_Place,x9_At⟩:=x9;try dsimp only at h
    refine ACall.mk _ _ rfl (hF _ _ _ (bX hg ht hx9)) (.inl rfl) (nb rfl) ?_;cbv;obtain⟨x10,hx10,h⟩:=ac h;obtain⟨x10_Place,x10_At⟩:=x10;try dsimp only at h
    refine ACall.mk _ _ rfl (hF _ _ _ (ca hg ht hx10)) (.inl rfl) (nb rfl) ?_;cbv;obtain rfl:=Option.some.inj h;exact ARet.mk trivial hX.symm
   rw[ab hb7] at h;cbv;obtain⟨x7,hx7,h⟩:=ac h;try dsimp only at h
   refine ACall.mk _ _ rfl (hF _ _ _ (de hg ht hx7)) (.inl rfl) (nb rfl) ?_;cbv;obtain⟨hc2,h⟩:=aj h;refine AStep.mk hc2 ?_;cbv;obtain⟨x8,hx8,h⟩:=aP h;obtain⟨x8_From,x8_To,x8_Start,x8_Takes,x8_Days,x8_Room⟩:=x8;try dsimp only at h
   refine AGet.mk _ (bm hg ht hx8) ?_;cbv;obtain rfl:=Option.some.inj h;exact ARet.mk trivial hX.symm
  rw[aa hb3] at h;have hK_:=h;subst hb3;have h:=hK_;clear hK_;cbv;iterate 3 try(rw[hb3];cbv)
  cases hb10:(eq x1_1_Kind 3)
  ·rw[aa hb10] at h;cbv;iterate 6 try(rw[hb10];cbv)
   obtain⟨x25,hx25,h⟩:=ac h;obtain⟨x25_Place,x25_At⟩:=x25;try dsimp only at h
   refine ACall.mk _ _ rfl (hF _ _ _ (bX hg ht hx25)) (.inl rfl) (nb rfl) ?_;cbv;obtain⟨x26,hx26,h⟩:=ac h;obtain⟨x26_Place,x26_At⟩:=x26;try dsimp only at h
   refine ACall.mk _ _ rfl (hF _ _ _ (ca hg ht hx26)) (.inl rfl) (nb rfl) ?_;cbv;obtain rfl:=Option.some.inj h;exact ARet.mk trivial hX.symm
  rw[ab hb10] at h;cbv;iterate 3 try(rw[hb10];cbv)
  obtain⟨x20,hx20,h⟩:=ac h;try dsimp only at h
  refine ACall.mk _ _ rfl (hF _ _ _ (eL hg ht hx20)) (.inl rfl) (nb rfl) ?_;cbv;iterate 3 try(rw[hb10];cbv)
  cases hb11:(lt a3 x20)
  ·rw[aa hb11] at h;cbv;obtain⟨x23,hx23,h⟩:=ac h;obtain⟨x23_Place,x23_At⟩:=x23;try dsimp only at h
   refine ACall.mk _ _ rfl (hF _ _ _ (bX hg ht hx23)) (.inl rfl) (nb rfl) ?_;cbv;obtain⟨x24,hx24,h⟩:=ac h;obtain⟨x24_Place,x24_At⟩:=x24;try dsimp only at h
   refine ACall.mk _ _ rfl (hF _ _ _ (ca hg ht hx24)) (.inl rfl) (nb rfl) ?_;cbv;obtain rfl:=Option.some.inj h;exact ARet.mk trivial hX.symm
  rw[ab hb11] at h;cbv;obtain⟨x21,hx21,h⟩:=ac h;try dsimp only at h
  refine ACall.mk _ _ rfl (hF _ _ _ (de hg ht hx21)) (.inl rfl) (nb rfl) ?_;cbv;obtain⟨hc4,h⟩:=aj h;refine AStep.mk hc4 ?_;cbv;obtain⟨x22,hx22,h⟩:=aP h;obtain⟨x22_From,x22_To,x22_Start,x22_Takes,x22_Days,x22_Room⟩:=x22;try dsimp only at h
  refine AGet.mk _ (bm hg ht hx22) ?_;cbv;obtain rfl:=Option.some.inj h;exact ARet.mk trivial hX.symm
 rw[aa hb1] at h;have hK_:=h;subst hb1;have h:=hK_;clear hK_;cbv;iterate 3 try(rw[hb1];cbv)
 obtain rfl:=Option.some.inj h;exact ARet.mk trivial hX.symm
def ir42:J:=js [jq 5 (.box 0),jm 10 kf] [1,2,3,4,5] (.seq (js [jm 12 1,jm 13 3,jb 14 .eql .s 12 13] [1,2,3,4,5,14] (.cond 14 (js [jm 15 2,jm 16 4,jb 17 .leq .i 15 16,jm 10 17] [10] .ret) .skip)) (js [jl 18 3 5,jm 19 1,jm 20 3,jm 21 2,jc 22 58 [18,19,20,21],jm 11 22] [4,11] (js [jm 23 11,jq 24 (.bin .neq .i 23 (.k (V.i (-1)))),jm 25 24,ju 26 25 (.mv 11),ju 27 25 (.mv 4),ju 28 25 (.bin .leq .i 26 27),jq 29 (.pick 25 28 kf),jm 10 29] [10] .ret)))
def rv42:List RV:=[.t 10]
def d6 (g:G) (t:TE) (a0:Network) (a1:ByteArray) (a2:Int) (a3:ByteArray) (a4:Int):Option Bool:=
 br (g.seq a1 a3)
 (
  some (g.le a2 a4))
 (
  cl (eW g t a0 a1 a3 a2) fun x1=>
  br (g.eq x1 (-1))
  (
   some false)
  (
   some (g.le x1 a4)))
theorem gH {g:G} {t:TE} {a0:Network} {a1:ByteArray} {a2:Int} {a3:ByteArray} {a4:Int} {r:Bool} (hg:g=G.real) (ht:t=TE.real) (h:d6 g t a0 a1 a2 a3 a4=some r):Fn Tryz.prog 42 [.g (Network.rs t a0),.c (.v (.string a1)),.c (.v (.int .i64 a2)),.c (.v (.string a3)),.c (.v (.int .i64 a4))] (.c (.r (.v (.bool r)))):=by
 obtain⟨X,hX⟩:=aE (.c (.r (.v (.bool r))):X);rw[←hX];refine aB (rvs:=rv42) (j:=ir42) Tryz.func42 rfl (by kernel_rfl) (nb rfl) (by kernel_rfl) af ?_;intro g2 F hg2 hF;obtain rfl:g2=g:=hg2.unique.trans hg.symm;clear hg2;obtain⟨_,_,_,eq,_,_,_,_,_,_,_,_,_,_,_,_,_,seq⟩:=g2;obtain⟨_⟩:=t
 obtain⟨a0_Legs,a0_Off,a0_Change⟩:=a0;unfold d6 at h;try dsimp only at h
 cbv
 cases hb1:(seq a1 a3)
 rotate_left
 ·rw[ab hb1] at h;cbv;obtain rfl:=Option.some.inj h;exact ARet.mk trivial hX.symm
 rw[aa hb1] at h;cbv;obtain⟨x1,hx1,h⟩:=ac h;try dsimp only at h
 refine ACall.mk _ _ rfl (hF _ _ _ (kE hg ht hx1)) (.inl rfl) (nb rfl) ?_;cbv
 cases hb2:(eq x1 (-1))
 rotate_left
 ·rw[ab hb2] at h;cbv;iterate 3 try(rw[hb2];cbv)
  obtain rfl:=Option.some.inj h;exact ARet.mk trivial hX.symm
 rw[aa hb2] at h;cbv;iterate 3 try(rw[hb2];cbv)
 obtain rfl:=Option.some.inj h;exact ARet.mk trivial hX.symm
def ir19:J:=js [jq 2 (.box 0),jm 4 kf] [1,2] (.seq (js [jf 5 4 2,jk 6 5] [1,2,6] (.cond 6 (js [jf 7 8 2,jk 8 7,jq 9 (.not 8),jm 10 9,ju 11 10 (.fa 5 2),ju 12 10 (.ld false 1 11),ju 13 10 (.mv 1),ju 14 10 (.bin .eql .s 12 13),jq 15 (.pick 10 14 kf),jm 4 15] [4] .ret) .skip)) (js [jf 16 9 2,jk 17 16,jm 18 17,ju 19 18 (.fa 0 2),ju 20 18 (.ld true 3 19),ju 21 18 (.fa 10 2),ju 22 18 (.fa 0 21),ju 23 18 (.ld false 1 22),ju 24 18 (.fa 10 2),ju 25 18 (.fa 1 24),ju 26 18 (.ld false 1 25),ju 27 18 (.mv 1),ju 28 18 (.fa 3 2),ju 29 18 (.ld false 1 28),ju 30 18 (.call 42 true [20,23,26,27,29]),jq 31 (.pick 18 30 kf),jm 32 31,ju 33 32 (.fa 14 2),ju 34 32 (.ld false 1 33),ju 35 32 (.not 34),ju 36 32 (.mv 35),jv 37 36 (.fa 0 2),jv 38 36 (.ld true 3 37),jv 39 36 (.mv 1),jv 40 36 (.fa 3 2),jv 41 36 (.ld false 1 40),jv 42 36 (.fa 12 2),jv 43 36 (.fa 0 42),jv 44 36 (.ld false 1 43),jv 45 36 (.fa 12 2),jv 46 36 (.fa 1 45),jv 47 36 (.ld false 1 46),jv 48 36 (.call 42 true [38,39,41,44,47]),ju 49 32 (.pick 36 kt 48),jq 50 (.pick 32 49 kf),jm 4 50] [4] .ret))
def rv19:List RV:=[.t 4]
def ar (g:G) (t:TE) (a0:Know) (a1:ByteArray):Option Bool:=
 br a0.known
 (
  br a0.rides
  (
   some false)
  (
   some (g.seq a0.place a1)))
 (
  br a0.free
  (
   cl (d6 g t (Network.mk a0.n.Legs a0.n.Off a0.n.Change) a0.from_.Place a0.from_.At a1 a0.at_) fun x1=>
   br x1
   (
    br a0.more
    (
     cl (d6 g t (Network.mk a0.n.Legs a0.n.Off a0.n.Change) a1 a0.at_ a0.to.Place a0.to.At) fun x2=>
     some x2)
    (
     some true))
   (
    some false))
  (
   some false))
theorem bO {g:G} {t:TE} {a0:Know} {a1:ByteArray} {r:Bool} (hg:g=G.real) (ht:t=TE.real) (h:ar g t a0 a1=some r):Fn Tryz.prog 19 [.g (Know.rs t a0),.c (.v (.string a1))] (.c (.r (.v (.bool r)))):=by
 obtain⟨X,hX⟩:=aE (.c (.r (.v (.bool r))):X);rw[←hX];refine aB (rvs:=rv19) (j:=ir19) Tryz.func19 rfl (by kernel_rfl) (nb rfl) (by kernel_rfl) af ?_;intro g2 F hg2 hF;obtain rfl:g2=g:=hg2.unique.trans hg.symm;clear hg2;obtain⟨_⟩:=g2;obtain⟨_⟩:=t
 obtain⟨⟨a0_n_Legs,a0_n_Off,a0_n_Change⟩,a0_at_,a0_known,a0_place,⟨a0_ride_Leg,a0_ride_Day⟩,a0_rides,a0_free,⟨a0_from__Place,a0_from__At⟩,⟨a0_to_Place,a0_to_At⟩,a0_more⟩:=a0;unfold ar at h;try dsimp only at h
 cbv
 cases hb1:a0_known
 rotate_left
 ·rw[ab hb1] at h;cbv
  cases hb2:a0_rides
  rotate_left
  ·rw[ab hb2] at h;cbv;iterate 4 try(rw[hb2];cbv)
   obtain rfl:=Option.some.inj h;exact ARet.mk trivial hX.symm
  rw[aa hb2] at h;cbv;iterate 4 try(rw[hb2];cbv)
  obtain rfl:=Option.some.inj h;exact ARet.mk trivial hX.symm
 rw[aa hb1] at h;cbv
 cases hb3:a0_free
 ·rw[aa hb3] at h;cbv;iterate 12 try(rw[hb3];cbv)
  obtain rfl:=Option.some.inj h;exact ARet.mk trivial hX.symm
 rw[ab hb3] at h;cbv;iterate 11 try(rw[hb3];cbv)
 obtain⟨x1,hx1,h⟩:=ac h;try dsimp only at h
 refine ACall.mk _ _ rfl (hF _ _ _ (gH hg ht hx1)) (.inl rfl) (nb rfl) ?_;cbv;try(rw[hb3];cbv)
 cases hb4:x1
 ·rw[aa hb4] at h;cbv;iterate 5 try(rw[hb4];cbv)
  obtain rfl:=Option.some.inj h;exact ARet.mk trivial hX.symm
 rw[ab hb4] at h;cbv;iterate 3 try(rw[hb4];cbv)
 cases hb5:a0_more
 ·rw[aa hb5] at h;cbv;iterate 11 try(rw[hb5];cbv)
  try(rw[hb4];cbv)
  try(rw[hb5];cbv)
  try(rw[hb4];cbv)
  obtain rfl:=Option.some.inj h;exact ARet.mk trivial hX.symm
 rw[ab hb5] at h;cbv;iterate 11 try(rw[hb5];cbv)
 obtain⟨x2,hx2,h⟩:=ac h;try dsimp only at h
 refine ACall.mk _ _ rfl (hF _ _ _ (gH hg ht hx2)) (.inl rfl) (nb rfl) ?_;cbv;try(rw[hb4];cbv)
 try(rw[hb5];cbv)
 try(rw[hb4];cbv)
 obtain rfl:=Option.some.inj h;exact ARet.mk trivial hX.symm
def ir21:J:=js [jq 2 (.box 0),jq 3 (.box 1),jm 4 kf] [2,3] (.seq (js [jf 6 4 2,jk 7 6] [2,3,7] (.cond 7 (js [jf 8 8 2,jk 9 8,jm 10 9,ju 11 10 (.fa 6 2),ju 12 10 (.ld true 2 11),ju 13 10 (.ld true 2 3),ju 14 10 (.eqs false [.i,.i] 12 13),jq 15 (.pick 10 14 kf),jm 4 15] [4] .ret) .skip)) (js [jf 16 0 2,jf 17 0 16,jk 18 17,jf 19 0 3,jk 20 19,ja 21 6 18 20,jl 22 6 21,jq 5 (.alloc [.r (.v (.string .empty)),.r (.v (.string .empty)),.r (.v (.int .i64 0)),.r (.v (.int .i64 0)),.r (.v (.int .i64 0)),.r (.v (.int .i64 0))]),jp (.st 6 5 22)] [2,3,5] (.seq (.seq (.reg (some [[],[0],[0,1],[0,1,2],[0,1,2,3],[0,1,2,3,4],[0,1,2,3],[0,1,2,3,4,5,6],[0,1,2,3],[0,1,2,3,8],[0,1,2,3,4,5,6,7,8,9],[0,1,2,3,4,5,6,7,8,9,10],[0,1,2,3,4,5,6,7,8,9,10,11],[0,1,2,3,4,5,6,7,8,9,10,11,12],[0,1,2,3,4,5,6,7,8,9,10,11,12,13],[0,1,2,3,4,5,6,7,8,9,10,11,12],[0,1,2,3,4,5,6,7,8,9,10,11,12,13,14,15],[0,1,2,3,4,5,6,7,8,9,10,11,12],[0,1,2,3,4,5,6,7,8,9,10,11,12,17],[0,1,2,3,4,5,6,7,8,9,10,11,12,13,14,15,16,17,18],[0,1,2,3,4,5,6,7,8,9,10,11,12,13,14,15,16,17,18,19],[0,1,2,3,4,5,6,7,8,9,10,11,12,13,14,15,16,17,18,19,20],[0,1,2,3,4,5,6,7,8,9,10,11,12,13,14,15,16,17,18,19,20,21],[0,1,2,3,4,5,6,7,8,9,10,11,12,13,14,15,16,17,18,19,20,21,22],[0,1,2,3,4,5,6,7,8,9,10,11,12,13,14,15,16,17,18,19,20,21],[0,1,2,3,4,5,6,7,8,9,10,11,12,13,14,15,16,17,18,19,20,21,24],[0,1,2,3,4,5,6,7,8,9,10,11,12,13,14,15,16,17,18,19,20,21,24,25],[0,1,2,3,4,5,6,7,8,9,10,11,12,13,14,15,16,17,18,19,20,21],[0,1,2,3,4,5,6,7,8,9,10,11,12,13,14,15,16,17,18,19,20,21,27],[0,1,2,3,4,5,6,7,8,9,10,11,12,13,14,15,16,17,18,19,20,21,27,28],[0,1,2,3,4,5,6,7,8,9,10,11,12,13,14,15,16,17,18,19,20,21],[0,1,2,3,4,5,6,7,8,9,10,11,12,13,14,15,16,17,18,19,20,21,30],[0,1,2,3,4,5,6,7,8,9,10,11,12,13,14,15,16,17,18,19,20,21],[0,1,2,3,4,5,6,7,8,9,10,11,12,13,14,15,16,17,18,19,20,21,32],[0,1,2,3,4,5,6,7,8,9,10,11,12,13,14,15,16,17,18,19,20,21],[0,1,2,3,4,5,6,7,8,9,10,11,12,13,14,15,16,17,18,19,20,21,32,33,34],[0,1,2,3,4,5,6,7,8,9,10,11,12,13,14,15,16,17,18,19,20,21,22,23,24,25,26,27,28,29,30,31,32,33,34,35],[0,1,2,3,4,5,6,7,8,9,10,11,12,13,14,15,16,17,18,19,20,21,22,23,24,25,26,27,28,29,30,31,32,33,34,35,36],[0,1,2,3,4,5,6,7,8,9,10,11,12,13,14,15,16,17,18,19,20,21,22,23,24,25,26,27,28,29,30,31,32,33,34,35,36,37]]) [jf 23 9 2,jk 24 23,jq 25 (.not 24),jm 26 25,jv 27 26 (.fa 0 2),jv 28
 26 (.ld true 3 27),jv 29 26 (.ld true 2 3),jv 30 26 (.call 37 true [28,29]),jv 31 26 (.fa 3 2),jv 32 26 (.ld false 1 31),jv 33 26 (.bin .gtr .i 30 32),jq 34 (.pick 26 kt 33),jm 35 34,jv 36 35 (.fa 0 2),jv 37 35 (.ld true 3 36),jv 38 35 (.ld true 2 3),jv 39 35 (.call 38 true [37,38]),jv 40 35 (.fa 3 2),jv 41 35 (.ld false 1 40),jv 42 35 (.bin .leq .i 39 41),jq 43 (.pick 35 kt 42),jm 44 43,jv 45 44 (.fa 0 2),jv 46 44 (.ld true 3 45),jv 47 44 (.fa 10 2),jv 48 44 (.fa 0 47),jv 49 44 (.ld false 1 48),jv 50 44 (.fa 10 2),jv 51 44 (.fa 1 50),jv 52 44 (.ld false 1 51),jv 53 44 (.fa 0 5),jv 54 44 (.ld false 1 53),jv 55 44 (.fa 0 2),jv 56 44 (.ld true 3 55),jv 57 44 (.ld true 2 3),jv 58 44 (.call 37 true [56,57]),jv 59 44 (.call 42 true [46,49,52,54,58]),jv 60 44 (.not 59),jq 61 (.pick 44 kt 60)] [2,3,5,61]) (.cond 61 (js [jm 4 kf] [4] .ret) .skip)) (.seq (.reg (some [[],[0],[0,1],[0,1,2],[0,1,2,3],[0,1,2,3,4],[0,1,2,3],[0,1,2,3,6],[0,1,2,3],[0,1,2,3,8],[0,1,2,3],[0,1,2,3,8,9,10],[0,1,2,3],[0,1,2,3,12],[0,1,2,3,12,13],[0,1,2,3],[0,1,2,3,15],[0,1,2,3,15,16],[0,1,2,3,4,5,6,7,8,9,10,11,12,13,14,15,16,17],[0,1,2,3,4,5,6,7,8,9,10,11,12,13,14,15,16,17,18],[0,1,2,3,4,5,6,7,8,9,10,11,12,13,14,15,16,17,18,19]]) [jf 62 14 2,jk 63 62,jq 64 (.not 63),jm 65 64,jv 66 65 (.fa 0 2),jv 67 65 (.ld true 3 66),jv 68 65 (.fa 1 5),jv 69 65 (.ld false 1 68),jv 70 65 (.fa 0 2),jv 71 65 (.ld true 3 70),jv 72 65 (.ld true 2 3),jv 73 65 (.call 38 true [71,72]),jv 74 65 (.fa 12 2),jv 75 65 (.fa 0 74),jv 76 65 (.ld false 1 75),jv 77 65 (.fa 12 2),jv 78 65 (.fa 1 77),jv 79 65 (.ld false 1 78),jv 80 65 (.call 42 true [67,69,73,76,79]),jq 81 (.pick 65 kt 80),jm 4 81] [4]) .ret))))
def rv21:List RV:=[.t 4]
def au (g:G) (t:TE) (a0:Know) (a1:Trip):Option Bool:=
 br a0.known
 (
  br a0.rides
  (
   some (g.all [(g.eq a0.ride.Leg a1.Leg),(g.eq a0.ride.Day a1.Day)]))
  (
   some false))
 (
  gd (((0:Int)≤a1.Leg))<|
  gt a0.n.Legs (g.nat a1.Leg) fun x1=>
  br a0.free
  (
   cl (cO g t (Network.mk a0.n.Legs a0.n.Off a0.n.Change) a1) fun x2=>
   br (g.lt a0.at_ x2)
   (
    some false)
   (
    cl (fi g t (Network.mk a0.n.Legs a0.n.Off a0.n.Change) a1) fun x3=>
    br (g.le x3 a0.at_)
    (
     some false)
    (
     cl (cO g t (Network.mk a0.n.Legs a0.n.Off a0.n.Change) a1) fun x4=>
     cl (d6 g t (Network.mk a0.n.Legs a0.n.Off a0.n.Change) a0.from_.Place a0.from_.At x1.From x4) fun x5=>
     br x5
     (
      br a0.more
      (
       cl (fi g t (Network.mk a0.n.Legs a0.n.Off a0.n.Change) a1) fun x6=>
       cl (d6 g t (Network.mk a0.n.Legs a0.n.Off a0.n.Change) x1.To x6 a0.to.Place a0.to.At) fun x7=>
       some x7)
      (
       some true))
     (
      some false))))
  (
   some false))
theorem dF {g:G} {t:TE} {a0:Know} {a1:Trip} {r:Bool} (hg:g=G.real) (ht:t=TE.real) (h:au g t a0 a1=some r):Fn Tryz.prog 21 [.g (Know.rs t a0),.g (Trip.rs t a1)] (.c (.r (.v (.bool r)))):=by
 obtain⟨X,hX⟩:=aE (.c (.r (.v (.bool r))):X);rw[←hX];refine aB (rvs:=rv21) (j:=ir21) Tryz.func21 rfl (by kernel_rfl) (nb rfl) (by kernel_rfl) af ?_;intro g2 F hg2 hF;obtain rfl:g2=g:=hg2.unique.trans hg.symm;clear hg2;obtain⟨_,lt,le⟩:=g2;obtain⟨_⟩:=t
 obtain⟨⟨a0_n_Legs,a0_n_Off,a0_n_Change⟩,a0_at_,a0_known,a0_place,⟨a0_ride_Leg,a0_ride_Day⟩,a0_rides,a0_free,⟨a0_from__Place,a0_from__At⟩,⟨a0_to_Place,a0_to_At⟩,a0_more⟩:=a0;obtain⟨a1_Leg,a1_Day⟩:=a1;unfold au at h;try dsimp only at h
 cbv
 cases hb1:a0_known
 rotate_left
 ·rw[ab hb1] at h;cbv
  cases hb2:a0_rides
  rotate_left
  ·rw[ab hb2] at h;cbv;iterate 4 try(rw[hb2];cbv)
   obtain rfl:=Option.some.inj h;exact ARet.mk trivial hX.symm
  rw[aa hb2] at h;cbv;iterate 4 try(rw[hb2];cbv)
  obtain rfl:=Option.some.inj h;exact ARet.mk trivial hX.symm
 rw[aa hb1] at h;cbv;obtain⟨hc1,h⟩:=aj h;refine AStep.mk hc1 ?_;cbv;obtain⟨x1,hx1,h⟩:=aP h;obtain⟨x1_From,x1_To,x1_Start,x1_Takes,x1_Days,x1_Room⟩:=x1;try dsimp only at h
 refine AGet.mk _ (bm hg ht hx1) ?_;cbv
 cases hb3:a0_free
 ·rw[aa hb3] at h;cbv;iterate 7 try(rw[hb3];cbv)
  obtain rfl:=Option.some.inj h;exact ARet.mk trivial hX.symm
 rw[ab hb3] at h;cbv;iterate 3 try(rw[hb3];cbv)
 obtain⟨x2,hx2,h⟩:=ac h;try dsimp only at h
 refine ACall.mk _ _ rfl (hF _ _ _ (de hg ht hx2)) (.inl rfl) (nb rfl) ?_;cbv;iterate 4 try(rw[hb3];cbv)
 cases hb4:(lt a0_at_ x2)
 rotate_left
 ·rw[ab hb4] at h;cbv;iterate 7 try(rw[hb4];cbv)
  obtain rfl:=Option.some.inj h;exact ARet.mk trivial hX.symm
 rw[aa hb4] at h;cbv;iterate 3 try(rw[hb4];cbv)
 obtain⟨x3,hx3,h⟩:=ac h;try dsimp only at h
 refine ACall.mk _ _ rfl (hF _ _ _ (eL hg ht hx3)) (.inl rfl) (nb rfl) ?_;cbv;iterate 4 try(rw[hb4];cbv)
 cases hb5:(le x3 a0_at_)
 rotate_left
 ·rw[ab hb5] at h;cbv;iterate 16 try(rw[hb5];cbv)
  obtain rfl:=Option.some.inj h;exact ARet.mk trivial hX.symm
 rw[aa hb5] at h;cbv;iterate 13 try(rw[hb5];cbv)
 obtain⟨x4,hx4,h⟩:=ac h;try dsimp only at h
 refine ACall.mk _ _ rfl (hF _ _ _ (de hg ht hx4)) (.inl rfl) (nb rfl) ?_;cbv;try(rw[hb5];cbv)
 obtain⟨x5,hx5,h⟩:=ac h;try dsimp only at h
 refine ACall.mk _ _ rfl (hF _ _ _ (gH hg ht hx5)) (.inl rfl) (nb rfl) ?_;cbv;iterate 2 try(rw[hb5];cbv)
 cases hb6:x5
 ·rw[aa hb6] at h;cbv;obtain rfl:=Option.some.inj h;exact ARet.mk trivial hX.symm
 rw[ab hb6] at h;cbv
 cases hb7:a0_more
 ·rw[aa hb7] at h;cbv;iterate 15 try(rw[hb7];cbv)
  obtain rfl:=Option.some.inj h;exact ARet.mk trivial hX.symm
 rw[ab hb7] at h;cbv;iterate 7 try(rw[hb7];cbv)
 obtain⟨x6,hx6,h⟩:=ac h;try dsimp only at h
 refine ACall.mk _ _ rfl (hF _ _ _ (eL hg ht hx6)) (.inl rfl) (nb rfl) ?_;cbv;iterate 7 try(rw[hb7];cbv)
 obtain⟨x7,hx7,h⟩:=ac h;try dsimp only at h
 refine ACall.mk _ _ rfl (hF _ _ _ (gH hg ht hx7)) (.inl rfl) (nb rfl) ?_;cbv;try(rw[hb7];cbv)
 obtain rfl:=Option.some.inj h;exact ARet.mk trivial hX.symm
def ir6:J:=js [jq 4 (.box 0),jq 8 (.alloc [.n 1,.n 2])] [1,2,3,4,8] (js [jq 16 (.bld [.n 1,.n 2] []),jq 9 (.alloc [.n 1,.n 2]),jp (.st 2 9 16)] [1,2,3,4,8,9] (.seq (js [jl 17 3 4,jc 18 16 [17],jq 19 (.not 18)] [1,2,3,4,8,9,19] (.cond 19 (js [jl 20 2 9,jp (.st 2 8 20)] [8] .ret) .skip)) (js [jl 21 3 4,jm 22 1,jm 23 2,jm 24 3,jc 25 17 [21,22,23,24],jq 10 (.alloc [.n 6,.n 1,.r (.v (.int .i64 0)),.r (.v (.int .i64 0)),.r (.v (.bool false)),.r (.v (.string .empty)),.r (.v (.int .i64 0)),.r (.v (.int .i64 0)),.r (.v (.bool false)),.r (.v (.bool false)),.r (.v (.string .empty)),.r (.v (.int .i64 0)),.r (.v (.string .empty)),.r (.v (.int .i64 0)),.r (.v (.bool false))]),jp (.st 15 10 25)] [4,8,9,10] (.seq (js [jl 26 3 4,jc 27 18 [26],jq 28 (.len false 27),jm 29 (ki 0)] [4,8,9,10,27,28,29] (.bl 0 (js [jb 30 .lss .i 29 28] [4,8,9,10,27,28,29,30] (.seq (.cond 30 .skip (.exit 0)) (.seq (.block 1 (js [ja 31 1 27 29,jk 32 31,jm 12 32] [4,8,9,10,12,27,28,29] (js [jl 33 15 10,jm 34 12,jc 35 19 [33,34]] [4,8,9,10,12,27,28,29,35] (.cond 35 (.reg none [jf 36 0 9,jk 37 36,jm 38 12,jq 39 (.bsl 1 [38]),jq 40 (.app 1 16 true 37 39),jf 41 0 9,jp (.st 1 41 40)] [4,8,9,10,27,28,29]) .skip)))) (.reg none [jb 42 .add .i 29 (ki 1),jm 29 42] [4,8,9,10,27,28,29])))))) (.seq (js [jm 13 (ki 0)] [4,8,9,10,13] (.bl 2 (.seq (js [jm 43 13,jb 44 .leq .i 43 (ki 60)] [4,8,9,10,13,44] (.cond 44 .skip (.exit 2))) (.seq (.block 3 (js [jf 47 0 4,jk 48 47,jq 49 (.len false 48),jm 50 (ki 0)] [4,8,9,10,13,49,50] (.bl 4 (js [jb 51 .lss .i 50 49] [4,8,9,10,13,49,50,51] (.seq (.cond 51 .skip (.exit 4)) (.seq (.block 5 (js [jm 52 50,jm 14 52] [4,8,9,10,13,14,49,50] (js [jm 53 14,jm 54 13,jq 55 (.bld [.r (.v (.int .i64 0)),.r (.v (.int .i64 0))] [(0,1,53),(1,1,54)]),jq 15 (.alloc [.r (.v (.int .i64 0)),.r (.v (.int .i64 0))]),jp (.st 2 15 55)] [4,8,9,10,13,14,15,49,50] (js [jf 56 1 9,jk 57 56,jq 58 (.len false 57),jb 59 .lss .i 58 (ki 60),jm 60 59,ju 61 60 (.ld true 3 4),ju 62 60 (.mv 14),ju 63 60 (.mv 13),ju 64 60 (.call 20 true [61,62,63]),jq 65 (.pick 60 64 kf),jm 66 65,ju 67 66 (.ld true 15 10),ju 68 66 (.ld true 2 15),ju 69 66 (.call 21 true [67,68]),jq 70 (.pick 66 69 kf)] [4,8,9,10,13,15,49,50,70] (.cond 70 (.reg none [jf 71 1 9,jk 72 71,jl 73 2 15,jq 74 (.bsl 2 [73]),jq 75 (.app 2 16 true 72 74),jf 76 1 9,jp (.st 1 76 75)] [4,8,9,10,13,49,50]) .skip))))) (.reg none [jb 77 .add .i 50 (ki 1),jm 50 77] [4,8,9,10,13,49,50]))))))) (.reg none [jm 45 13,jb 46 .add .i 45 (ki 1),jm 13 46] [4,8,9,10,13]))))) (js [jl 78 2 9,jp (.st 2 8 78)] [8] .ret))))))
def rv6:List RV:=[.c 8 true 2]
def bF (g:G) (t:TE) (a0:Network) (v2:Int) (x2:Know):List Leg→Int→List Trip→Option (List Trip)
 |[],v3,w3=>
  some w3
 |z3::ls3,v3,w3=>
  br (g.lt (g.int (g.dlen (t.d_Trip w3))) 60)
  (
   cl (kQ g t a0 v3 v2) fun x6=>
   br x6
   (
    cl (au g t (Know.mk (Network.mk x2.n.Legs x2.n.Off x2.n.Change) x2.at_ x2.known x2.place (Trip.mk x2.ride.Leg x2.ride.Day) x2.rides x2.free (Spot.mk x2.from_.Place x2.from_.At) (Spot.mk x2.to.Place x2.to.At) x2.more) (Trip.mk v3 v2)) fun x7=>
    br x7
    (
     lP ([(Trip.mk v3 v2)]) fun(l3:List Trip)=>
     gd (((w3.length+l3.length)*16≤70368744177664))<|
     lP (w3++l3) fun(l4:List Trip)=>
     bF g t a0 v2 x2 ls3 (g.wrap .i64 (g.add v3 1)) l4)
    (
     bF g t a0 v2 x2 ls3 (g.wrap .i64 (g.add v3 1)) w3))
   (
    bF g t a0 v2 x2 ls3 (g.wrap .i64 (g.add v3 1)) w3))
  (
   bF g t a0 v2 x2 ls3 (g.wrap .i64 (g.add v3 1)) w3)
def da (g:G) (t:TE) (a0:Network) (x2:Know):Nat→Int→List Trip→Option (List Trip)
 |0,v2,w2=>
  some w2
 |n2+1,v2,w2=>
  cl (bF g t a0 v2 x2 a0.Legs 0 w2) fun y2=>
  da g t a0 x2 n2 (g.wrap .i64 (g.add v2 1)) y2
def cz (g:G) (t:TE) (x2:Know) (x3:List ByteArray):Nat→Int→List ByteArray→Option (List ByteArray)
 |0,v1,w1=>
  some w1
 |n1+1,v1,w1=>
  gt x3 (g.nat v1) fun x4=>
  cl (ar g t (Know.mk (Network.mk x2.n.Legs x2.n.Off x2.n.Change) x2.at_ x2.known x2.place (Trip.mk x2.ride.Leg x2.ride.Day) x2.rides x2.free (Spot.mk x2.from_.Place x2.from_.At) (Spot.mk x2.to.Place x2.to.At) x2.more) x4) fun x5=>
  br x5
  (
   lP ([x4]) fun(l1:List ByteArray)=>
   gd (((w1.length+l1.length)*16≤70368744177664))<|
   lP (w1++l1) fun(l2:List ByteArray)=>
   cz g t x2 x3 n1 (g.wrap .i64 (g.add v1 1)) l2)
  (
   cz g t x2 x3 n1 (g.wrap .i64 (g.add v1 1)) w1)
def go (g:G) (t:TE) (a0:Network) (a1:List Scan) (a2:Int) (a3:Int):Option Belief:=
 cl (c7 g t a0) fun x1=>
 br x1
 (
  cl (ig g t a0 a1 a2 a3) fun x2=>
  cl (dI g t a0) fun x3=>
  gd (((g.int (g.dlen (t.d_S x3)))≤9223372036854775807))<|
  cl (cz g t x2 x3 (ap 0 (g.int (g.dlen (t.d_S x3)))) 0 []) fun y1=>
  cl (da g t a0 x2 (fh 0 60) 0 []) fun y3=>
  some (Belief.mk y1 y3))
 (
  some (Belief.mk [] []))
theorem nt {g:G} {t:TE} {a0:Network} {a1:List Scan} {a2:Int} {a3:Int} {r:Belief} (hg:g=G.real) (ht:t=TE.real) (h:go g t a0 a1 a2 a3=some r):Fn Tryz.prog 6 [.g (Network.rs t a0),.c (.s 6 (t.r_Scan a1)),.c (.v (.int .i64 a2)),.c (.v (.int .i64 a3))] (.g (Belief.ds t r)):=by
 obtain⟨X,hX⟩:=aE (.g (Belief.ds t r):X);rw[←hX];refine aB (rvs:=rv6) (j:=ir6) Tryz.func6 rfl (by kernel_rfl) (nb rfl) (by kernel_rfl) af ?_;intro g2 F hg2 hF;obtain rfl:g2=g:=hg2.unique.trans hg.symm;clear hg2;obtain⟨wrap,lt,le,_,_,_,_,_,_,_,_,_,int,add,_,_,_,_,_,_,_,llen,_,_,dlen⟩:=g2;obtain⟨_,_,r_Leg,_,r_I64,_,_,_,_,d_S,_,d_Trip⟩:=t
 obtain⟨a0_Legs,a0_Off,a0_Change⟩:=a0;have hnil_S:d_S []=[]:=CU ht;have hnil_Trip:d_Trip []=[]:=xo ht;unfold go at h;try dsimp only at h
 cbv;obtain⟨x1,hx1,h⟩:=ac h;try dsimp only at h
 refine ACall.mk _ _ rfl (hF _ _ _ (fz hg ht hx1)) (.inl rfl) (nb rfl) ?_;cbv
 cases hb1:x1
 ·rw[aa hb1] at h;cbv;obtain rfl:=Option.some.inj h;exact ARet.mk trivial (by rw[hX];first|rfl|(simp only[Leg.ds,Network.ds,Trip.ds,Scan.ds,Belief.ds,Cur.ds,Spot.ds,Know.ds,hnil_S,hnil_Trip];try rfl))
 rw[ab hb1] at h;cbv;obtain⟨x2,hx2,h⟩:=ac h;obtain⟨⟨x2_n_Legs,x2_n_Off,x2_n_Change⟩,x2_at_,x2_known,x2_place,⟨x2_ride_Leg,x2_ride_Day⟩,x2_rides,x2_free,⟨x2_from__Place,x2_from__At⟩,⟨x2_to_Place,x2_to_At⟩,x2_more⟩:=x2;try dsimp only at h
 refine ACall.mk _ _ rfl (hF _ _ _ (oZ hg ht hx2)) (.inl rfl) (nb rfl) ?_;cbv;obtain⟨x3,hx3,h⟩:=ac h;try dsimp only at h
 refine ACall.mk _ _ rfl (hF _ _ _ (e9 hg ht hx3)) (.inl rfl) (nb rfl) ?_;cbv;obtain⟨hB1,h⟩:=aj h;obtain⟨o1,ho1,h⟩:=ac h;try dsimp only at h
 try rw[hg] at ho1
 try rw[ht] at ho1
 refine ABL.mk {p:Nat×Int×List ByteArray//p.1=ap p.2.1 (int (dlen (d_S x3)))∧0≤p.2.1∧cz G.real TE.real (Know.mk (Network.mk x2_n_Legs x2_n_Off x2_n_Change) x2_at_ x2_known x2_place (Trip.mk x2_ride_Leg x2_ride_Day) x2_rides x2_free (Spot.mk x2_from__Place x2_from__At) (Spot.mk x2_to_Place x2_to_At) x2_more) x3 p.1 p.2.1 p.2.2=some o1} (fun⟨⟨n1,v1,w1⟩,_⟩=>({sl:=[(4,.c (.p 0 3 0 0)),(8,.c (.p 1 2 0 0)),(9,.c (.p 2 2 0 0)),(10,.c (.p 4 15 0 0)),(27,.c (.f 5 1 0 (dlen (d_S x3)))),(28,.c (.r (.v (.int .i64 (int (dlen (d_S x3))))))),(29,.c (.r (.v (.int .i64 v1))))],tab:=[(0,some (.foc 3 [] [.r (.s 6 (r_Leg a0_Legs)),.r (.s 1 (r_I64 a0_Off)),.r (.v (.int .i64 a0_Change))] [])),(1,some (.foc 2 [] [.n 1,.n 2] [])),(2,some (.foc 2 [] [.f 3 1 0 (dlen (d_S w1)),.n 2] [])),(3,some (.arr 1 (d_S w1))),(4,some (.foc 15 [] [.r (.s 6 (r_Leg x2_n_Legs)),.r (.s 1 (r_I64 x2_n_Off)),.r (.v (.int .i64 x2_n_Change)),.r (.v (.int .i64 x2_at_)),.r (.v (.bool x2_known)),.r (.v (.string x2_place)),.r (.v (.int .i64 x2_ride_Leg)),.r (.v (.int .i64 x2_ride_Day)),.r (.v (.bool x2_rides)),.r (.v (.bool x2_free)),.r (.v (.string x2_from__Place)),.r (.v (.int .i64 x2_from__At)),.r (.v (.string x2_to_Place)),.r (.v (.int .i64 x2_to_At)),.r (.v (.bool x2_more))] [])),(5,some (.arr 1 (d_S x3)))]}:St)) 6 (fun p=>p.1.1) ⟨(ap 0 (int (dlen (d_S x3))),0,[]),rfl,Int.le_refl _,ho1⟩ (List ByteArray) (fun y1=>({sl:=[(4,.c (.p 0 3 0 0)),(8,.c (.p 1 2 0 0)),(9,.c (.p 2 2 0 0)),(10,.c (.p 4 15 0 0))],tab:=[(0,some (.foc 3 [] [.r (.s 6 (r_Leg a0_Legs)),.r (.s 1 (r_I64 a0_Off)),.r (.v (.int .i64 a0_Change))] [])),(1,some (.foc 2 [] [.n 1,.n 2] [])),(2,some (.foc 2 [] [.f 3 1 0 (dlen (d_S y1)),.n 2] [])),(3,some (.arr 1 (d_S y1))),(4,some (.foc 15 [] [.r (.s 6 (r_Leg x2_n_Legs)),.r (.s 1 (r_I64 x2_n_Off)),.r (.v (.int .i64 x2_n_Change)),.r (.v (.int .i64 x2_at_)),.r (.v (.bool x2_known)),.r (.v (.string x2_place)),.r (.v (.int .i64 x2_ride_Leg)),.r (.v (.int .i64 x2_ride_Day)),.r (.v (.bool x2_rides)),.r (.v (.bool x2_free)),.r (.v (.string x2_from__Place)),.r (.v (.int .i64 x2_from__At)),.r (.v (.string x2_to_Place)),.r (.v (.int .i64 x2_to_At)),.r (.v (.bool x2_more))] []))]}:St)) 5 (fun y=>o1=y) ?_ ?_ ?_
 ·refine Wk.of [(0,some 0),(1,some 16),(2,some 48),(3,none),(4,some 208),(5,some 256)] rfl rfl ?_ ?_
  ·cbv;all_goals try rw[show dlen (d_S [])=0 from p6 hg ht]
   all_goals try rw[hnil_S]
   all_goals exact⟨⟨_,rfl,rfl⟩,⟨_,rfl,rfl⟩,⟨_,rfl,rfl⟩,⟨_,rfl,rfl⟩,⟨_,rfl,rfl⟩,⟨_,rfl,rfl⟩,⟨_,rfl,rfl⟩,trivial⟩
  cbv;all_goals try rw[show dlen (d_S [])=0 from p6 hg ht]
  all_goals try rw[hnil_S]
  all_goals exact⟨⟨_,rfl,_,rfl,rfl,rfl,rfl,trivial⟩,⟨_,rfl,_,rfl,rfl,rfl,trivial⟩,⟨_,rfl,_,rfl,⟨⟨_,rfl⟩,rfl,rfl⟩,rfl,trivial⟩,⟨_,rfl⟩,⟨_,rfl,_,rfl,rfl,rfl,rfl,rfl,rfl,rfl,rfl,rfl,rfl,rfl,rfl,rfl,rfl,rfl,rfl,trivial⟩,⟨_,rfl,rfl⟩,trivial⟩
 ·rintro⟨⟨n1,v1,w1⟩,hn1,hi1,h_1⟩ hq1;try dsimp only at hn1 hi1 h_1
  clear hq1;cbv;rcases n1 with _|n1
  ·have hb2:lt v1 (int (dlen (d_S x3)))=false:=bc hg hn1;rw[cz] at h_1;try rw[←hg] at h_1
   try rw[←ht] at h_1
   try dsimp only at h_1
   rw[hb2];cbv;refine⟨w1,Wk.of [(0,some 0),(1,some 1),(2,some 2),(3,some 3),(4,some 4)] rfl rfl ?_ ?_,(Option.some.inj h_1).symm⟩
   ·cbv;all_goals exact⟨⟨_,rfl,rfl⟩,⟨_,rfl,rfl⟩,⟨_,rfl,rfl⟩,⟨_,rfl,rfl⟩,trivial⟩
   cbv;all_goals exact⟨⟨_,rfl,_,rfl,rfl,rfl,rfl,trivial⟩,⟨_,rfl,_,rfl,rfl,rfl,trivial⟩,⟨_,rfl,_,rfl,rfl,rfl,trivial⟩,⟨_,rfl,rfl⟩,⟨_,rfl,_,rfl,rfl,rfl,rfl,rfl,rfl,rfl,rfl,rfl,rfl,rfl,rfl,rfl,rfl,rfl,rfl,trivial⟩,trivial⟩
  have hb2:lt v1 (int (dlen (d_S x3)))=true:=bz hg hn1;have hl1:=dj hn1;have hs1:=cr hg hn1 hi1 hB1 (by decide);rw[cz] at h_1;try rw[←hg] at h_1
  try rw[←ht] at h_1
  try dsimp only at h_1
  rw[hb2];cbv;refine AStep.mk (dV hg hi1 hl1) ?_;cbv;obtain⟨x4,hx4,h_1⟩:=aP h_1;try dsimp only at h_1
  refine AGet.mk _ (iY hg ht hx4) ?_;cbv;obtain⟨x5,hx5,h_1⟩:=ac h_1;try dsimp only at h_1
  refine ACall.mk _ _ rfl (hF _ _ _ (bO hg ht hx5)) (.inl rfl) (nb rfl) ?_;cbv
  cases hb3:x5
  ·rw[aa hb3] at h_1;cbv;try rw[hg] at h_1
   try rw[ht] at h_1
   refine⟨⟨(n1,(wrap .i64 (add v1 1)),w1),hs1.1,hs1.2,h_1⟩,Wk.of [(0,some 0),(1,some 1),(2,some 2),(3,some 3),(4,some 4),(5,some 5)] rfl rfl ?_ ?_,Nat.lt_succ_self _⟩
   ·cbv;all_goals exact⟨⟨_,rfl,rfl⟩,⟨_,rfl,rfl⟩,⟨_,rfl,rfl⟩,⟨_,rfl,rfl⟩,⟨_,rfl,rfl⟩,⟨_,rfl,rfl⟩,⟨_,rfl,rfl⟩,trivial⟩
   cbv;all_goals exact⟨⟨_,rfl,_,rfl,rfl,rfl,rfl,trivial⟩,⟨_,rfl,_,rfl,rfl,rfl,trivial⟩,⟨_,rfl,_,rfl,rfl,rfl,trivial⟩,⟨_,rfl,rfl⟩,⟨_,rfl,_,rfl,rfl,rfl,rfl,rfl,rfl,rfl,rfl,rfl,rfl,rfl,rfl,rfl,rfl,rfl,rfl,trivial⟩,⟨_,rfl,rfl⟩,trivial⟩
  rw[ab hb3] at h_1;cbv;obtain⟨l1,hl1,h_1⟩:=ah h_1;try dsimp only at h_1
  refine ANew.mk (d_S l1) (dlen (d_S l1)) (by rw[←hl1];exact gl hg ht [x4]) (by rw[←hl1];exact ez hg ht [x4]) ?_;cbv;obtain⟨hc1,h_1⟩:=aj h_1;refine AStep.mk ⟨⟨rfl,(al hg ht _)⟩,(cE hg ht (al hg ht _) rfl hc1)⟩ ?_;cbv;obtain⟨l2,hl2,h_1⟩:=ah h_1;try dsimp only at h_1
  refine ANew.mk (d_S l2) (dlen (d_S l2)) (by rw[←hl2];exact gK hg ht (al hg ht _) rfl) (by rw[←hl2];exact eF hg ht (al hg ht _) rfl) ?_;cbv;try rw[hg] at h_1
  try rw[ht] at h_1
  refine⟨⟨(n1,(wrap .i64 (add v1 1)),l2),hs1.1,hs1.2,h_1⟩,Wk.of [(0,some 0),(1,some 1),(2,some 2),(3,some 182),(4,some 4),(5,some 5)] rfl rfl ?_ ?_,Nat.lt_succ_self _⟩
  ·cbv;all_goals exact⟨⟨_,rfl,rfl⟩,⟨_,rfl,rfl⟩,⟨_,rfl,rfl⟩,⟨_,rfl,rfl⟩,⟨_,rfl,rfl⟩,⟨_,rfl,rfl⟩,⟨_,rfl,rfl⟩,trivial⟩
  cbv;all_goals exact⟨⟨_,rfl,_,rfl,rfl,rfl,rfl,trivial⟩,⟨_,rfl,_,rfl,rfl,rfl,trivial⟩,⟨_,rfl,_,rfl,rfl,rfl,trivial⟩,⟨_,rfl,rfl⟩,⟨_,rfl,_,rfl,rfl,rfl,rfl,rfl,rfl,rfl,rfl,rfl,rfl,rfl,rfl,rfl,rfl,rfl,rfl,trivial⟩,⟨_,rfl,rfl⟩,trivial⟩
 rintro y1 hy1;replace hy1:=hy1.symm;subst hy1;try dsimp only[lr,lrL,lrp,a9] at h
 cbv;obtain⟨o2,ho2,h⟩:=ac h;try dsimp only at h
 try rw[hg] at ho2
 try rw[ht] at ho2
 refine ABL.mk {p:Nat×Int×List Trip//p.1=fh p.2.1 60∧0≤p.2.1∧da G.real TE.real (Network.mk a0_Legs a0_Off a0_Change) (Know.mk (Network.mk x2_n_Legs x2_n_Off x2_n_Change) x2_at_ x2_known x2_place (Trip.mk x2_ride_Leg x2_ride_Day) x2_rides x2_free (Spot.mk x2_from__Place x2_from__At) (Spot.mk x2_to_Place x2_to_At) x2_more) p.1 p.2.1 p.2.2=some o2} (fun⟨⟨n2,v2,w2⟩,_⟩=>({sl:=[(4,.c (.p 0 3 0 0)),(8,.c (.p 1 2 0 0)),(9,.c (.p 2 2 0 0)),(10,.c (.p 5 15 0 0)),(13,.c (.r (.v (.int .i64 v2))))],tab:=[(0,some (.foc 3 [] [.r (.s 6 (r_Leg a0_Legs)),.r (.s 1 (r_I64 a0_Off)),.r (.v (.int .i64 a0_Change))] [])),(1,some (.foc 2 [] [.n 1,.n 2] [])),(2,some (.foc 2 [] [.f 3 1 0 (dlen (d_S y1)),.f 4 2 0 (dlen (d_Trip w2))] [])),(3,some (.arr 1 (d_S y1))),(4,some (.arr 2 (d_Trip w2))),(5,some (.foc 15 [] [.r (.s 6 (r_Leg x2_n_Legs)),.r (.s 1 (r_I64 x2_n_Off)),.r (.v (.int .i64 x2_n_Change)),.r (.v (.int .i64 x2_at_)),.r (.v (.bool x2_known)),.r (.v (.string x2_place)),.r (.v (.int .i64 x2_ride_Leg)),.r (.v (.int .i64 x2_ride_Day)),.r (.v (.bool x2_rides)),.r (.v (.bool x2_free)),.r (.v (.string x2_from__Place)),.r (.v (.int .i64 x2_from__At)),.r (.v (.string x2_to_Place)),.r (.v (.int .i64 x2_to_At)),.r (.v (.bool x2_more))] []))]}:St)) 6 (fun p=>p.1.1) ⟨(fh 0 60,0,[]),rfl,Int.le_refl _,ho2⟩ (List Trip) (fun y3=>({sl:=[(8,.c (.p 0 2 0 0)),(9,.c (.p 1 2 0 0))],tab:=[(0,some (.foc 2 [] [.n 1,.n 2] [])),(1,some (.foc 2 [] [.f 2 1 0 (dlen (d_S y1)),.f 3 2 0 (dlen (d_Trip y3))] [])),(2,some (.arr 1 (d_S y1))),(3,some (.arr 2 (d_Trip y3)))]}:St)) 4 (fun y=>o2=y) ?_ ?_ ?_
 ·refine Wk.of [(0,some 0),(1,some 1),(2,some 2),(3,some 3),(4,none),(5,some 4)] rfl rfl ?_ ?_
  ·cbv;all_goals try rw[show dlen (d_Trip [])=0 from lX hg ht]
   all_goals try rw[hnil_Trip]
   all_goals exact⟨⟨_,rfl,rfl⟩,⟨_,rfl,rfl⟩,⟨_,rfl,rfl⟩,⟨_,rfl,rfl⟩,⟨_,rfl,rfl⟩,trivial⟩
  cbv;all_goals try rw[show dlen (d_Trip [])=0 from lX hg ht]
  all_goals try rw[hnil_Trip]
  all_goals exact⟨⟨_,rfl,_,rfl,rfl,rfl,rfl,trivial⟩,⟨_,rfl,_,rfl,rfl,rfl,trivial⟩,⟨_,rfl,_,rfl,rfl,⟨⟨_,rfl⟩,rfl,rfl⟩,trivial⟩,⟨_,rfl,rfl⟩,⟨_,rfl⟩,⟨_,rfl,_,rfl,rfl,rfl,rfl,rfl,rfl,rfl,rfl,rfl,rfl,rfl,rfl,rfl,rfl,rfl,rfl,trivial⟩,trivial⟩
 ·rintro⟨⟨n2,v2,w2⟩,hn2,hi2,h_2⟩ hq2;try dsimp only at hn2 hi2 h_2
  clear hq2;cbv;rcases n2 with _|n2
  ·have hb4:le v2 60=false:=oE hg hn2;rw[da] at h_2;try rw[←hg] at h_2
   try rw[←ht] at h_2
   try dsimp only at h_2
   rw[hb4];cbv;refine⟨w2,Wk.of [(0,some 1),(1,some 2),(2,some 3),(3,some 4)] rfl rfl ?_ ?_,(Option.some.inj h_2).symm⟩
   ·cbv;all_goals exact⟨⟨_,rfl,rfl⟩,⟨_,rfl,rfl⟩,trivial⟩
   cbv;all_goals exact⟨⟨_,rfl,_,rfl,rfl,rfl,trivial⟩,⟨_,rfl,_,rfl,rfl,rfl,trivial⟩,⟨_,rfl,rfl⟩,⟨_,rfl,rfl⟩,trivial⟩
  have hb4:le v2 60=true:=pX hg hn2;have hl2:=xi hn2;have hs2:=tR hg hn2 hi2 (by decide) (by decide);rw[da] at h_2;try rw[←hg] at h_2
  try rw[←ht] at h_2
  try dsimp only at h_2
  rw[hb4];cbv;obtain⟨o3,ho3,h_2⟩:=ac h_2;try dsimp only at h_2
  try rw[hg] at ho3
  try rw[ht] at ho3
  refine ABL.mk {p:Nat×Int×List Trip//p.1≤a0_Legs.length∧p.2.1=((p.1:Nat):Int)∧bF G.real TE.real (Network.mk a0_Legs a0_Off a0_Change) v2 (Know.mk (Network.mk x2_n_Legs x2_n_Off x2_n_Change) x2_at_ x2_known x2_place (Trip.mk x2_ride_Leg x2_ride_Day) x2_rides x2_free (Spot.mk x2_from__Place x2_from__At) (Spot.mk x2_to_Place x2_to_At) x2_more) (List.drop p.1 a0_Legs) p.2.1 p.2.2=some o3} (fun⟨⟨k3,v3,w3⟩,_⟩=>({sl:=[(4,.c (.p 0 3 0 0)),(8,.c (.p 1 2 0 0)),(9,.c (.p 2 2 0 0)),(10,.c (.p 5 15 0 0)),(13,.c (.r (.v (.int .i64 v2)))),(49,.c (.r (.v (.int .i64 (llen (r_Leg a0_Legs)))))),(50,.c (.r (.v (.int .i64 v3))))],tab:=[(0,some (.foc 3 [] [.r (.s 6 (r_Leg a0_Legs)),.r (.s 1 (r_I64 a0_Off)),.r (.v (.int .i64 a0_Change))] [])),(1,some (.foc 2 [] [.n 1,.n 2] [])),(2,some (.foc 2 [] [.f 3 1 0 (dlen (d_S y1)),.f 4 2 0 (dlen (d_Trip w3))] [])),(3,some (.arr 1 (d_S y1))),(4,some (.arr 2 (d_Trip w3))),(5,some (.foc 15 [] [.r (.s 6 (r_Leg x2_n_Legs)),.r (.s 1 (r_I64 x2_n_Off)),.r (.v (.int .i64 x2_n_Change)),.r (.v (.int .i64 x2_at_)),.r (.v (.bool x2_known)),.r (.v (.string x2_place)),.r (.v (.int .i64 x2_ride_Leg)),.r (.v (.int .i64 x2_ride_Day)),.r (.v (.bool x2_rides)),.r (.v (.bool x2_free)),.r (.v (.string x2_from__Place)),.r (.v (.int .i64 x2_from__At)),.r (.v (.string x2_to_Place)),.r (.v (.int .i64 x2_to_At)),.r (.v (.bool x2_more))] []))]}:St)) 6 (fun p=>a0_Legs.length-p.1.1) ⟨(0,0,w2),Nat.zero_le _,rfl,ho3⟩ (List Trip) (fun y2=>({sl:=[(4,.c (.p 0 3 0 0)),(8,.c (.p 1 2 0 0)),(9,.c (.p 2 2 0 0)),(10,.c (.p 5 15 0 0)),(13,.c (.r (.v (.int .i64 v2))))],tab:=[(0,some (.foc 3 [] [.r (.s 6 (r_Leg a0_Legs)),.r (.s 1 (r_I64 a0_Off)),.r (.v (.int .i64 a0_Change))] [])),(1,some (.foc 2 [] [.n 1,.n 2] [])),(2,some (.foc 2 [] [.f 3 1 0 (dlen (d_S y1)),.f 4 2 0 (dlen (d_Trip y2))] [])),(3,some (.arr 1 (d_S y1))),(4,some (.arr 2 (d_Trip y2))),(5,some (.foc 15 [] [.r (.s 6 (r_Leg x2_n_Legs)),.r (.s 1 (r_I64 x2_n_Off)),.r (.v (.int .i64 x2_n_Change)),.r (.v (.int .i64 x2_at_)),.r (.v (.bool x2_known)),.r (.v (.string x2_place)),.r (.v (.int .i64 x2_ride_Leg)),.r (.v (.int .i64 x2_ride_Day)),.r (.v (.bool x2_rides)),.r (.v (.bool x2_free)),.r (.v (.string x2_from__Place)),.r (.v (.int .i64 x2_from__At)),.r (.v (.string x2_to_Place)),.r (.v (.int .i64 x2_to_At)),.r (.v (.bool x2_more))] []))]}:St)) 6 (fun y=>o3=y) ?_ ?_ ?_
  ·refine Wk.of [(0,some 0),(1,some 1),(2,some 2),(3,some 3),(4,some 4),(5,some 5)] rfl rfl ?_ ?_
   ·cbv;all_goals exact⟨⟨_,rfl,rfl⟩,⟨_,rfl,rfl⟩,⟨_,rfl,rfl⟩,⟨_,rfl,rfl⟩,⟨_,rfl,rfl⟩,⟨_,rfl,rfl⟩,⟨_,rfl,rfl⟩,trivial⟩
   cbv;all_goals exact⟨⟨_,rfl,_,rfl,rfl,rfl,rfl,trivial⟩,⟨_,rfl,_,rfl,rfl,rfl,trivial⟩,⟨_,rfl,_,rfl,rfl,rfl,trivial⟩,⟨_,rfl,rfl⟩,⟨_,rfl,rfl⟩,⟨_,rfl,_,rfl,rfl,rfl,rfl,rfl,rfl,rfl,rfl,rfl,rfl,rfl,rfl,rfl,rfl,rfl,rfl,trivial⟩,trivial⟩
  ·rintro⟨⟨k3,v3,w3⟩,hk3,hi3,h_3⟩ hq3;have hm3:=(hq3.2.2.1 0 _ _ _ _ 0 _ _ rfl rfl);try dsimp only at hk3 hi3 h_3
   clear hq3;cbv
   by_cases hc3_:k3<a0_Legs.length
   ·have hb5:lt v3 (llen (r_Leg a0_Legs))=true:=ee hg ht hi3 hc3_;have hs3:=gB hg ht hi3 hc3_ hm3;obtain⟨z3,hz3⟩:=aW hc3_;rw[aD hz3] at h_3;rw[bF] at h_3;obtain⟨z3_From,z3_To,z3_Start,z3_Takes,z3_Days,z3_Room⟩:=z3;try rw[←hg] at h_3
    try rw[←ht] at h_3
    try dsimp only at h_3
    rw[hb5];cbv
    cases hb6:(lt (int (dlen (d_Trip w3))) 60)
    ·rw[aa hb6] at h_3;cbv;iterate 4 try(rw[hb6];cbv)
     try rw[hg] at h_3
     try rw[ht] at h_3
     refine⟨⟨(k3+1,(wrap .i64 (add v3 1)),w3),hc3_,hs3,h_3⟩,Wk.of [(0,some 0),(1,some 1),(2,some 2),(3,some 3),(4,some 4),(5,some 5)] rfl rfl ?_ ?_,a7 hc3_⟩
     ·cbv;all_goals exact⟨⟨_,rfl,rfl⟩,⟨_,rfl,rfl⟩,⟨_,rfl,rfl⟩,⟨_,rfl,rfl⟩,⟨_,rfl,rfl⟩,⟨_,rfl,rfl⟩,⟨_,rfl,rfl⟩,trivial⟩
     cbv;all_goals exact⟨⟨_,rfl,_,rfl,rfl,rfl,rfl,trivial⟩,⟨_,rfl,_,rfl,rfl,rfl,trivial⟩,⟨_,rfl,_,rfl,rfl,rfl,trivial⟩,⟨_,rfl,rfl⟩,⟨_,rfl,rfl⟩,⟨_,rfl,_,rfl,rfl,rfl,rfl,rfl,rfl,rfl,rfl,rfl,rfl,rfl,rfl,rfl,rfl,rfl,rfl,trivial⟩,trivial⟩
    rw[ab hb6] at h_3;cbv;iterate 3 try(rw[hb6];cbv)
    obtain⟨x6,hx6,h_3⟩:=ac h_3;try dsimp only at h_3
    refine ACall.mk _ _ rfl (hF _ _ _ (qm hg ht hx6)) (.inl rfl) (nb rfl) ?_;cbv;try(rw[hb6];cbv)
    cases hb7:x6
    ·rw[aa hb7] at h_3;cbv;iterate 3 try(rw[hb7];cbv)
     try rw[hg] at h_3
     try rw[ht] at h_3
     refine⟨⟨(k3+1,(wrap .i64 (add v3 1)),w3),hc3_,hs3,h_3⟩,Wk.of [(0,some 0),(1,some 1),(2,some 2),(3,some 3),(4,some 4),(5,some 5)] rfl rfl ?_ ?_,a7 hc3_⟩
     ·cbv;all_goals exact⟨⟨_,rfl,rfl⟩,⟨_,rfl,rfl⟩,⟨_,rfl,rfl⟩,⟨_,rfl,rfl⟩,⟨_,rfl,rfl⟩,⟨_,rfl,rfl⟩,⟨_,rfl,rfl⟩,trivial⟩
     cbv;all_goals exact⟨⟨_,rfl,_,rfl,rfl,rfl,rfl,trivial⟩,⟨_,rfl,_,rfl,rfl,rfl,trivial⟩,⟨_,rfl,_,rfl,rfl,rfl,trivial⟩,⟨_,rfl,rfl⟩,⟨_,rfl,rfl⟩,⟨_,rfl,_,rfl,rfl,rfl,rfl,rfl,rfl,rfl,rfl,rfl,rfl,rfl,rfl,rfl,rfl,rfl,rfl,trivial⟩,trivial⟩
    rw[ab hb7] at h_3;cbv;iterate 2 try(rw[hb7];cbv)
    obtain⟨x7,hx7,h_3⟩:=ac h_3;try dsimp only at h_3
    refine ACall.mk _ _ rfl (hF _ _ _ (dF hg ht hx7)) (.inl rfl) (nb rfl) ?_;cbv;try(rw[hb7];cbv)
    cases hb8:x7
    ·rw[aa hb8] at h_3;cbv;try rw[hg] at h_3
     try rw[ht] at h_3
     refine⟨⟨(k3+1,(wrap .i64 (add v3 1)),w3),hc3_,hs3,h_3⟩,Wk.of [(0,some 0),(1,some 1),(2,some 2),(3,some 3),(4,some 4),(5,some 5)] rfl rfl ?_ ?_,a7 hc3_⟩
     ·cbv;all_goals exact⟨⟨_,rfl,rfl⟩,⟨_,rfl,rfl⟩,⟨_,rfl,rfl⟩,⟨_,rfl,rfl⟩,⟨_,rfl,rfl⟩,⟨_,rfl,rfl⟩,⟨_,rfl,rfl⟩,trivial⟩
     cbv;all_goals exact⟨⟨_,rfl,_,rfl,rfl,rfl,rfl,trivial⟩,⟨_,rfl,_,rfl,rfl,rfl,trivial⟩,⟨_,rfl,_,rfl,rfl,rfl,trivial⟩,⟨_,rfl,rfl⟩,⟨_,rfl,rfl⟩,⟨_,rfl,_,rfl,rfl,rfl,rfl,rfl,rfl,rfl,rfl,rfl,rfl,rfl,rfl,rfl,rfl,rfl,rfl,trivial⟩,trivial⟩
    rw[ab hb8] at h_3;cbv;obtain⟨l3,hl3,h_3⟩:=ah h_3;try dsimp only at h_3
    refine ANew.mk (d_Trip l3) (dlen (d_Trip l3)) (by rw[←hl3];exact nK hg ht [(Trip.mk v3 v2)]) (by rw[←hl3];exact lB hg ht [(Trip.mk v3 v2)]) ?_;cbv;obtain⟨hc2,h_3⟩:=aj h_3;refine AStep.mk ⟨⟨rfl,(ci hg ht _)⟩,(oY hg ht (ci hg ht _) rfl hc2)⟩ ?_;cbv;obtain⟨l4,hl4,h_3⟩:=ah h_3;try dsimp only at h_3
    refine ANew.mk (d_Trip l4) (dlen (d_Trip l4)) (by rw[←hl4];exact vM hg ht (ci hg ht _) rfl) (by rw[←hl4];exact sW hg ht (ci hg ht _) rfl) ?_;cbv;try rw[hg] at h_3
    try rw[ht] at h_3
    refine⟨⟨(k3+1,(wrap .i64 (add v3 1)),l4),hc3_,hs3,h_3⟩,Wk.of [(0,some 0),(1,some 1),(2,some 2),(3,some 3),(4,some 438),(5,some 5)] rfl rfl ?_ ?_,a7 hc3_⟩
    ·cbv;all_goals exact⟨⟨_,rfl,rfl⟩,⟨_,rfl,rfl⟩,⟨_,rfl,rfl⟩,⟨_,rfl,rfl⟩,⟨_,rfl,rfl⟩,⟨_,rfl,rfl⟩,⟨_,rfl,rfl⟩,trivial⟩
    cbv;all_goals exact⟨⟨_,rfl,_,rfl,rfl,rfl,rfl,trivial⟩,⟨_,rfl,_,rfl,rfl,rfl,trivial⟩,⟨_,rfl,_,rfl,rfl,rfl,trivial⟩,⟨_,rfl,rfl⟩,⟨_,rfl,rfl⟩,⟨_,rfl,_,rfl,rfl,rfl,rfl,rfl,rfl,rfl,rfl,rfl,rfl,rfl,rfl,rfl,rfl,rfl,rfl,trivial⟩,trivial⟩
   have hb5:lt v3 (llen (r_Leg a0_Legs))=false:=dJ hg ht hi3 hc3_;rw[List.drop_of_length_le (Nat.le_of_not_lt hc3_)] at h_3;rw[bF] at h_3;try rw[←hg] at h_3
   try rw[←ht] at h_3
   try dsimp only at h_3
   rw[hb5];cbv;refine⟨w3,Wk.of [(0,some 0),(1,some 1),(2,some 2),(3,some 3),(4,some 4),(5,some 5)] rfl rfl ?_ ?_,(Option.some.inj h_3).symm⟩
   ·cbv;all_goals exact⟨⟨_,rfl,rfl⟩,⟨_,rfl,rfl⟩,⟨_,rfl,rfl⟩,⟨_,rfl,rfl⟩,⟨_,rfl,rfl⟩,trivial⟩
   cbv;all_goals exact⟨⟨_,rfl,_,rfl,rfl,rfl,rfl,trivial⟩,⟨_,rfl,_,rfl,rfl,rfl,trivial⟩,⟨_,rfl,_,rfl,rfl,rfl,trivial⟩,⟨_,rfl,rfl⟩,⟨_,rfl,rfl⟩,⟨_,rfl,_,rfl,rfl,rfl,rfl,rfl,rfl,rfl,rfl,rfl,rfl,rfl,rfl,rfl,rfl,rfl,rfl,trivial⟩,trivial⟩
  rintro y2 hy3;replace hy3:=hy3.symm;subst hy3;try dsimp only[lr,lrL,lrp,a9] at h_2
  cbv;try rw[hg] at h_2
  try rw[ht] at h_2
  refine⟨⟨(n2,(wrap .i64 (add v2 1)),y2),hs2.1,hs2.2,h_2⟩,Wk.of [(0,some 0),(1,some 1),(2,some 2),(3,some 3),(4,some 4),(5,some 5)] rfl rfl ?_ ?_,Nat.lt_succ_self _⟩
  ·cbv;all_goals exact⟨⟨_,rfl,rfl⟩,⟨_,rfl,rfl⟩,⟨_,rfl,rfl⟩,⟨_,rfl,rfl⟩,⟨_,rfl,rfl⟩,trivial⟩
  cbv;all_goals exact⟨⟨_,rfl,_,rfl,rfl,rfl,rfl,trivial⟩,⟨_,rfl,_,rfl,rfl,rfl,trivial⟩,⟨_,rfl,_,rfl,rfl,rfl,trivial⟩,⟨_,rfl,rfl⟩,⟨_,rfl,rfl⟩,⟨_,rfl,_,rfl,rfl,rfl,rfl,rfl,rfl,rfl,rfl,rfl,rfl,rfl,rfl,rfl,rfl,rfl,rfl,trivial⟩,trivial⟩
 rintro y3 hy2;replace hy2:=hy2.symm;subst hy2;try dsimp only[lr,lrL,lrp,a9] at h
 cbv;obtain rfl:=Option.some.inj h;exact ARet.mk ⟨⟨rfl,(al hg ht _)⟩,⟨rfl,(ci hg ht _)⟩⟩ hX.symm
def ir8:J:=js [jq 1 (.box 0),jm 2 (ki 0)] [1] (js [jf 3 0 1,jk 4 3,jq 5 (.len false 4),jf 6 1 1,jk 7 6,jq 8 (.len false 7),jb 9 .add .i 5 8,jm 2 9] [2] .ret)
def rv8:List RV:=[.t 2]
def lE (g:G) (t:TE) (a0:Belief):Int:=
 (g.wrap .i64 (g.add (g.llen (t.r_S a0.Places)) (g.llen (t.r_Trip a0.Rides))))
theorem sJ {g:G} {t:TE} {a0:Belief} {r:Int} (hg:g=G.real) (ht:t=TE.real) (h:lE g t a0=r):Fn Tryz.prog 8 [.g (Belief.rs t a0)] (.c (.r (.v (.int .i64 r)))):=by
 obtain⟨X,hX⟩:=aE (.c (.r (.v (.int .i64 r))):X);rw[←hX];refine aB (rvs:=rv8) (j:=ir8) Tryz.func8 rfl (by kernel_rfl) (nb rfl) (by kernel_rfl) af ?_;intro g2 F hg2 hF;obtain rfl:g2=g:=hg2.unique.trans hg.symm;clear hg2;obtain⟨_⟩:=g2;obtain⟨_⟩:=t
 obtain⟨a0_Places,a0_Rides⟩:=a0;unfold lE at h;try dsimp only at h
 cbv;subst h;exact ARet.mk trivial hX.symm
end Go.Vs
namespace Go.Vs
open Go.RowKit
theorem AV {P:Program} {f:FuncId} {xs:List Value} {y:Value} (hy:y.oneCell'=true)
 (h:∀w,Laid P w→Calls P f xs.toArray w fun e w'=>e=.returned y∧Below w.heap.size w w'):Fn P f (xs.map fun x=>.c (.v x)) (.c (.r (.v y))):=by
 intro w S0 vs hS ha hL
 have e:=mj _ _ ha
 subst e
 refine(h w hL).mono ?_
 rintro e w' ⟨rfl,hb⟩
 refine⟨y,[],fun _=>False,rfl,?_,⟨hb,List.nodup_nil,by simp,by simp⟩⟩
 simp only[dL,cQ,a8,true_and]
 exact hy
theorem Bm {P:Program} {w:World} (h:Laid P w) (hg:(P.globalNamed "internal/strconv.uint64pow10").isSome=true):Lib.TabIs P w "internal/strconv.uint64pow10" .u64 Lib.pow10Tab:=
 h.tab ("internal/strconv.uint64pow10",.u64,Lib.pow10Tab) (by simp[tabs]) hg
theorem tc {w:World} {S:Nat→Prop} {b:Nat}:∀(l:List ByteArray) (o:Nat),bA w S b 1 o (l.map fun x=>[R.v (.string x)])→∀(j:Nat) x,l[j]?=some x→w.cell? ⟨b,o+j,none⟩=some (.string x)
 |[],_,_,j,x,h=>by simp at h
 |y::l,o,h,j,x,hj=>by
  simp only[List.map_cons,bA,aK,a8] at h
  obtain⟨⟨_,⟨z,hz,rfl,_⟩,_⟩,h2⟩:=h
  cases j with
  |zero=>simp at hj;subst hj;simpa using hz
  |succ j=>
   have:=tc l (o+1) h2 j x (by simpa using hj)
   rw[show o+(j+1)=o+1+j by omega];exact this
theorem Dj {P:Program} {f:FuncId} (h0:∀(a:Option Addr) (c:Nat) (sep:ByteArray) (w:World),Calls P f #[.slice a 0 c,.string sep] w fun e w'=>e=.returned (.string ⟨#[]⟩)∧w'=w)
 (h1:∀(bk o c:Nat) (xs:List ByteArray) (sep:ByteArray) (w:World),(∀(j:Nat) x,xs[j]?=some x→w.cell? ⟨bk,o+j,none⟩=some (.string x))→bk<w.heap.size→xs.length≤140737488355328→xs.length≤c→(Lib.join (xs.map (·.data.toList)) sep.data.toList).length≤140737488355328→
  Calls P f #[.slice (some ⟨bk,o,none⟩) xs.length c,.string sep] w fun e w'=>e=.returned (.string ⟨(Lib.join (xs.map (·.data.toList)) sep.data.toList).toArray⟩)∧Below w.heap.size w w')
 (l:List ByteArray) (sep:ByteArray) (hN:l.length≤140737488355328) (hlen:(Lib.join (l.map (·.data.toList)) sep.data.toList).length≤140737488355328):
 Fn P f [.c (.s 1 (l.map fun x=>[R.v (.string x)])),.c (.v (.string sep))] (.c (.r (.v (.string ⟨(Lib.join (l.map (·.data.toList)) sep.data.toList).toArray⟩)))):=by
 intro w S0 vs hS ha hL
 simp only[eN,rI,a8] at ha
 obtain⟨z,zs,rfl,⟨a,cap,rfl,c1,c2,c3⟩,z2,zs2,rfl,⟨rfl,_⟩,rfl⟩:=ha
 rw[List.length_map] at c1 ⊢
 cases hl:l with
 |nil=>
  refine(h0 a cap sep w).mono ?_
  rintro e w' ⟨rfl,rfl⟩
  refine⟨_,[],fun _=>False,rfl,?_,⟨Below.refl _ _,List.nodup_nil,by simp,by simp⟩⟩
  simp only[dL,cQ,a8,true_and]
  exact⟨rfl,rfl⟩
 |cons x0 l0=>
  rw[←hl]
  obtain⟨b,o,rfl,hb,hr⟩:=c3 (by rw[hl];simp)
  refine(h1 b o cap l sep w (tc l o hr) (hS b hb) hN c1 hlen).mono ?_
  rintro e w' ⟨rfl,hbl⟩
  refine⟨_,[],fun _=>False,rfl,?_,⟨hbl,List.nodup_nil,by simp,by simp⟩⟩
  simp only[dL,cQ,a8,true_and]
  rfl
end Go.Vs
namespace Go.Proofs
open Go.Shelf Go.RowKit Go.Lib Go.Sort
set_option maxHeartbeats 2000000
set_option maxRecDepth 100000
def Tryz.laysM171_ren:Go.Shelf.Ren:=⟨fun|171=>62|243=>84|246=>118|283=>146|284=>147|285=>148|286=>149|129=>110|317=>155|318=>156|319=>157|320=>158|337=>161|338=>162|n=>n,fun|3=>3|9=>9|2=>2|4=>4|171=>169|0=>0|53=>136|37=>22|5=>5|173=>171|212=>178|51=>134|20=>20|213=>179|46=>97|232=>182|233=>183|n=>n,fun|17=>1|18=>2|19=>3|n=>n⟩
theorem Tryz.laysM171:Go.Proofs.LaysM.n171 Tryz.prog Tryz.laysM171_ren:={
 mixed:=by kernel_rfl
 f129:=Tryz.func110.trans (congrArg some (by kernel_rfl))
 f171:=Tryz.func62.trans (congrArg some (by kernel_rfl))
 f243:=Tryz.func84.trans (congrArg some (by kernel_rfl))
 f246:=Tryz.func118.trans (congrArg some (by kernel_rfl))
 f283:=Tryz.func146.trans (congrArg some (by kernel_rfl))
 f284:=Tryz.func147.trans (congrArg some (by kernel_rfl))
 f285:=Tryz.func148.trans (congrArg some (by kernel_rfl))
 f286:=Tryz.func149.trans (congrArg some (by kernel_rfl))
 f317:=Tryz.func155.trans (congrArg some (by kernel_rfl))
 f318:=Tryz.func156.trans (congrArg some (by kernel_rfl))
 f319:=Tryz.func157.trans (congrArg some (by kernel_rfl))
 f320:=Tryz.func158.trans (congrArg some (by kernel_rfl))
 f337:=Tryz.func161.trans (congrArg some (by kernel_rfl))
 f338:=Tryz.func162.trans (congrArg some (by kernel_rfl))
 t0:=Tryz.underlying0
 a0:=Tryz.isAgg0
 z0:=Tryz.sizeOf0
 v0:=Tryz.zeroValue0
 t2:=Tryz.underlying2
 a2:=Tryz.isAgg2
 z2:=Tryz.sizeOf2
 v2:=Tryz.zeroValue2
 t3:=Tryz.underlying3
 a3:=Tryz.isAgg3
 z3:=Tryz.sizeOf3
 v3:=Tryz.zeroValue3
 t4:=Tryz.underlying4
 a4:=Tryz.isAgg4
 z4:=Tryz.sizeOf4
 v4:=Tryz.zeroValue4
 t5:=Tryz.underlying5
 a5:=Tryz.isAgg5
 z5:=Tryz.sizeOf5
 v5:=Tryz.zeroValue5
 t9:=Tryz.underlying9
 a9:=Tryz.isAgg9
 z9:=Tryz.sizeOf9
 v9:=Tryz.zeroValue9
 t20:=Tryz.underlying20
 a20:=Tryz.isAgg20
 z20:=Tryz.sizeOf20
 v20:=Tryz.zeroValue20
 t37:=Tryz.underlying22
 a37:=Tryz.isAgg22
 z37:=Tryz.sizeOf22
 v37:=Tryz.zeroValue22
 t46:=Tryz.underlying97
 a46:=Tryz.isAgg97
 z46:=Tryz.sizeOf97
 v46:=Tryz.zeroValue97
 t51:=Tryz.underlying134
 a51:=Tryz.isAgg134
 z51:=Tryz.sizeOf134
 v51:=Tryz.zeroValue134
 t53:=Tryz.underlying136
 a53:=Tryz.isAgg136
 z53:=Tryz.sizeOf136
 v53:=Tryz.zeroValue136
 t171:=Tryz.underlying169
 a171:=Tryz.isAgg169
 z171:=Tryz.sizeOf169
 v171:=Tryz.zeroValue169
 t173:=Tryz.underlying171
 a173:=Tryz.isAgg171
 z173:=Tryz.sizeOf171
 v173:=Tryz.zeroValue171
 t212:=Tryz.underlying178
 a212:=Tryz.isAgg178
 z212:=Tryz.sizeOf178
 v212:=Tryz.zeroValue178
 t213:=Tryz.underlying179
 a213:=Tryz.isAgg179
 z213:=Tryz.sizeOf179
 t232:=Tryz.underlying182
 a232:=Tryz.isAgg182
 z232:=Tryz.sizeOf182
 v232:=Tryz.zeroValue182
 t233:=Tryz.underlying183
 a233:=Tryz.isAgg183
 z233:=Tryz.sizeOf183
 v233:=Tryz.zeroValue183
 g17:=by kernel_rfl
 g18:=by kernel_rfl
 g19:=by kernel_rfl
 i0:=by kernel_rfl
 i2:=by kernel_rfl
 i3:=by kernel_rfl
 i4:=by kernel_rfl
 i5:=by kernel_rfl
 i9:=by kernel_rfl
 i20:=by kernel_rfl
 i37:=by kernel_rfl
 i46:=by kernel_rfl
 i51:=by kernel_rfl
 i53:=by kernel_rfl
 i171:=by kernel_rfl
 i173:=by kernel_rfl
 i212:=by kernel_rfl
 i232:=by kernel_rfl
 i233:=by kernel_rfl
 m17:=by kernel_rfl
 m18:=by kernel_rfl
 m19:=by kernel_rfl}
theorem Tryz.itoaN:Tryz.laysM171_ren.f 171=62:=by kernel_rfl
theorem Tryz.powG:(Tryz.prog.globalNamed "internal/strconv.uint64pow10").isSome=true:=by kernel_rfl
end Go.Proofs
namespace Go.Vs
open Go Go.Proofs Go.RowKit
def kL (g:G) (t:TE) (a0:Int):Option ByteArray:=gd (-9223372036854775808≤a0∧a0≤9223372036854775807)<|some ⟨(Lib.itoa a0).toArray⟩
theorem nW {g:G} {t:TE} {a0:Int} {r:ByteArray} (hg:g=G.real) (ht:t=TE.real) (h:kL g t a0=some r):Fn Tryz.prog 62 [.c (.v (.int .i64 a0))] (.c (.r (.v (.string r)))):=by
 obtain⟨⟨h0,h1⟩,h⟩:=aj h;cases h
 refine AV (xs:=[.int .i64 a0]) rfl (fun w hw=>?_);have k:=Any.strconv_Itoa Tryz.laysM171 a0 h0 h1 w (Bm hw Tryz.powG);rw[Tryz.itoaN] at k;refine k.mono ?_;rintro e w' ⟨rfl,k,os,rfl⟩;exact⟨rfl,Go.Lib.below_grow _ _ (Nat.le_refl _) _ _⟩
set_option maxRecDepth 100000
def ir45 (s_k0:ByteArray):J:=js [jq 2 (.mv (.k (.c (.r (.v (.string s_k0))))))] [0] (js [jm 3 0,jc 4 62 [3],jm 2 4] [2] .ret)
def rv45:List RV:=[.t 2]
open Go.Proofs Go.IntWalk
set_option linter.unusedVariables false
set_option maxHeartbeats 4000000
def iZ (g:G) (t:TE) (a0:Int):Option ByteArray:=
 cl (kL g t a0) fun x1=>
 some x1
theorem lN {g:G} {t:TE} {a0:Int} {r:ByteArray} (hg:g=G.real) (ht:t=TE.real) (h:iZ g t a0=some r):Fn Tryz.prog 45 [.c (.v (.int .i64 a0))] (.c (.r (.v (.string r)))):=by
 obtain⟨X,hX⟩:=aE (.c (.r (.v (.string r))):X);rw[←hX];refine aB (rvs:=rv45) (j:=(ir45 str_k0)) Tryz.func45 rfl (by kernel_rfl) (nb rfl) (by kernel_rfl) af ?_;intro g2 F hg2 hF;obtain rfl:g2=g:=hg2.unique.trans hg.symm;clear hg2;obtain⟨_⟩:=g2;obtain⟨_⟩:=t
 unfold iZ at h;try dsimp only at h
 obtain⟨s_k0,hs_k0⟩:∃s,str_k0=s:=⟨_,rfl⟩;try rw[hs_k0] at h
 rw[hs_k0];cbv;obtain⟨x1,hx1,h⟩:=ac h;try dsimp only at h
 refine ACall.mk _ _ rfl (hF _ _ _ (nW hg ht hx1)) (.inl rfl) (nb rfl) ?_;cbv;obtain rfl:=Option.some.inj h;exact ARet.mk trivial hX.symm
def ir23 (s_k0 s_k9:ByteArray):J:=js [jq 1 (.box 0),jq 2 (.mv (.k (.c (.r (.v (.string s_k0))))))] [1] (.seq (.reg (some [[],[0],[0,1],[0,1,2],[],[4],[0,1,2,4,5],[0,1,2,3,4,5,6],[0,1,2,3,4,5,6,7]]) [jf 3 0 1,jk 4 3,jc 5 45 [4],jq 6 (.bin .add .s 5 (.k (.c (.r (.v (.string s_k9)))))),jf 7 1 1,jk 8 7,jc 9 45 [8],jb 10 .add .s 6 9,jm 2 10] [2]) .ret)
def rv23:List RV:=[.t 2]
def mb (g:G) (t:TE) (a0:Trip):Option ByteArray:=
 cl (iZ g t a0.Leg) fun x1=>
 gd ((x1.size+qw.size≤70368744177664))<|
 cl (iZ g t a0.Day) fun x2=>
 gd (((g.cat x1 qw).size+x2.size≤70368744177664))<|
 some (g.cat (g.cat x1 qw) x2)
theorem ug {g:G} {t:TE} {a0:Trip} {r:ByteArray} (hg:g=G.real) (ht:t=TE.real) (h:mb g t a0=some r):Fn Tryz.prog 23 [.g (Trip.rs t a0)] (.c (.r (.v (.string r)))):=by
 obtain⟨X,hX⟩:=aE (.c (.r (.v (.string r))):X);rw[←hX];refine aB (rvs:=rv23) (j:=(ir23 str_k0 qw)) Tryz.func23 rfl (by kernel_rfl) (nb rfl) (by kernel_rfl) af ?_;intro g2 F hg2 hF;obtain rfl:g2=g:=hg2.unique.trans hg.symm;clear hg2;obtain⟨_⟩:=g2;obtain⟨_⟩:=t
 obtain⟨a0_Leg,a0_Day⟩:=a0;unfold mb at h;try dsimp only at h
 obtain⟨s_k0,hs_k0⟩:∃s,str_k0=s:=⟨_,rfl⟩;try rw[hs_k0] at h
 rw[hs_k0];obtain⟨s_k9,hs_k9⟩:∃s,qw=s:=⟨_,rfl⟩;try rw[hs_k9] at h
 rw[hs_k9];cbv;obtain⟨x1,hx1,h⟩:=ac h;try dsimp only at h
 refine ACall.mk _ _ rfl (hF _ _ _ (lN hg ht hx1)) (.inl rfl) (nb rfl) ?_;cbv;obtain⟨hc1,h⟩:=aj h;refine AStep.mk (Bx hc1) ?_;cbv;obtain⟨x2,hx2,h⟩:=ac h;try dsimp only at h
 refine ACall.mk _ _ rfl (hF _ _ _ (lN hg ht hx2)) (.inl rfl) (nb rfl) ?_;cbv;obtain⟨hc2,h⟩:=aj h;refine AStep.mk (Bx hc2) ?_;cbv;obtain rfl:=Option.some.inj h;exact ARet.mk trivial hX.symm
end Go.Vs
namespace Go.Proofs
open Go.Shelf Go.RowKit Go.Lib Go.Sort
set_option maxHeartbeats 2000000
set_option maxRecDepth 100000
def Tryz.lays156_ren:Go.Shelf.Ren:=⟨fun|156=>24|165=>46|166=>47|169=>48|240=>63|241=>64|276=>85|277=>86|n=>n,fun|31=>31|9=>9|3=>3|4=>4|0=>0|20=>20|72=>86|76=>90|70=>84|37=>22|75=>89|127=>103|164=>118|5=>5|80=>92|n=>n,fun|n=>n⟩
theorem Tryz.lays156:Go.Proofs.Lays.n156 Tryz.prog Tryz.lays156_ren:={
 mixed:=by kernel_rfl
 f156:=Tryz.func24.trans (congrArg some (by kernel_rfl))
 f165:=Tryz.func46.trans (congrArg some (by kernel_rfl))
 f166:=Tryz.func47.trans (congrArg some (by kernel_rfl))
 f169:=Tryz.func48.trans (congrArg some (by kernel_rfl))
 f240:=Tryz.func63.trans (congrArg some (by kernel_rfl))
 f241:=Tryz.func64.trans (congrArg some (by kernel_rfl))
 f276:=Tryz.func85.trans (congrArg some (by kernel_rfl))
 f277:=Tryz.func86.trans (congrArg some (by kernel_rfl))
 t0:=Tryz.underlying0
 a0:=Tryz.isAgg0
 z0:=Tryz.sizeOf0
 v0:=Tryz.zeroValue0
 t3:=Tryz.underlying3
 a3:=Tryz.isAgg3
 z3:=Tryz.sizeOf3
 v3:=Tryz.zeroValue3
 t4:=Tryz.underlying4
 a4:=Tryz.isAgg4
 z4:=Tryz.sizeOf4
 v4:=Tryz.zeroValue4
 t9:=Tryz.underlying9
 a9:=Tryz.isAgg9
 z9:=Tryz.sizeOf9
 v9:=Tryz.zeroValue9
 t20:=Tryz.underlying20
 a20:=Tryz.isAgg20
 z20:=Tryz.sizeOf20
 v20:=Tryz.zeroValue20
 t31:=Tryz.underlying31
 a31:=Tryz.isAgg31
 z31:=Tryz.sizeOf31
 v31:=Tryz.zeroValue31
 t37:=Tryz.underlying22
 a37:=Tryz.isAgg22
 z37:=Tryz.sizeOf22
 v37:=Tryz.zeroValue22
 t70:=Tryz.underlying84
 a70:=Tryz.isAgg84
 z70:=Tryz.sizeOf84
 v70:=Tryz.zeroValue84
 t72:=Tryz.underlying86
 a72:=Tryz.isAgg86
 z72:=Tryz.sizeOf86
 v72:=Tryz.zeroValue86
 t75:=Tryz.underlying89
 a75:=Tryz.isAgg89
 z75:=Tryz.sizeOf89
 v75:=Tryz.zeroValue89
 t76:=Tryz.underlying90
 a76:=Tryz.isAgg90
 z76:=Tryz.sizeOf90
 v76:=Tryz.zeroValue90
 t127:=Tryz.underlying103
 a127:=Tryz.isAgg103
 z127:=Tryz.sizeOf103
 v127:=Tryz.zeroValue103
 t164:=Tryz.underlying118
 a164:=Tryz.isAgg118
 z164:=Tryz.sizeOf118
 v164:=Tryz.zeroValue118}
theorem Tryz.joinN:Tryz.lays156_ren.f 156=24:=by kernel_rfl
theorem Tryz.Builder_Extra_156:Builder.Extra Tryz.prog Tryz.lays156_ren:={
 sizeBuilder:=by kernel_rfl
 liesBuilder:=by kernel_rfl
 t5:=by kernel_rfl
 a5:=fun _=>by kernel_rfl
 z5:=fun _=>by kernel_rfl
 v5:=fun _=>by kernel_rfl
 infoByte:=by kernel_rfl
 cellsByte:=by kernel_rfl
 sizeByte:=by kernel_rfl
 neB5:=by decide}
end Go.Proofs
namespace Go.Vs
open Go Go.Proofs Go.RowKit
def lm (g:G) (t:TE) (a0:List ByteArray) (a1:ByteArray):Option ByteArray:=gd (a0.length≤140737488355328∧(Lib.join (a0.map (·.data.toList)) a1.data.toList).length≤140737488355328)<|some ⟨(Lib.join (a0.map (·.data.toList)) a1.data.toList).toArray⟩
theorem nT {g:G} {t:TE} {a0:List ByteArray} {a1 r:ByteArray} (hg:g=G.real) (ht:t=TE.real) (h:lm g t a0 a1=some r):Fn Tryz.prog 24 [.c (.s 1 (t.r_S a0)),.c (.v (.string a1))] (.c (.r (.v (.string r)))):=by
 obtain⟨⟨h0,h1⟩,h⟩:=aj h;cases h
 subst ht;have k0:=fun a c sep w=>Any.strings_Join_none Tryz.lays156 Tryz.Builder_Extra_156 a c sep w
 have k1:=fun bk o c xs sep w=>Any.strings_Join Tryz.lays156 Tryz.Builder_Extra_156 bk o c xs sep w
 rw[Tryz.joinN] at k0 k1;exact Dj k0 k1 a0 a1 h0 h1
set_option maxRecDepth 100000
def ir9 (s_k0 s_k10 s_k11:ByteArray):J:=js [jq 1 (.box 0),jq 2 (.mv (.k (.c (.r (.v (.string s_k0))))))] [1] (js [jq 6 (.bsl 1 []),jf 7 0 1,jk 8 7,jq 9 (.app 1 16 false 6 8),jm 3 9] [1,3] (.seq (js [jf 10 1 1,jk 11 10,jq 12 (.len false 11),jm 13 (ki 0)] [3,11,12,13] (.bl 0 (js [jb 14 .lss .i 13 12] [3,11,12,13,14] (.seq (.cond 14 .skip (.exit 0)) (.seq (.block 1 (js [ja 15 2 11 13,jl 16 2 15,jq 5 (.alloc [.r (.v (.int .i64 0)),.r (.v (.int .i64 0))]),jp (.st 2 5 16)] [3,5,11,12,13] (.reg none [jm 17 3,jl 18 2 5,jc 19 23 [18],jq 20 (.bsl 1 [19]),jq 21 (.app 1 16 true 17 20),jm 3 21] [3,11,12,13]))) (.reg none [jb 22 .add .i 13 (ki 1),jm 13 22] [3,11,12,13])))))) (.seq (js [jm 23 3,jq 24 (.len false 23),jb 25 .eql .i 24 (ki 0)] [3,25] (.cond 25 (js [jq 2 (.mv (.k (.c (.r (.v (.string s_k10))))))] [2] .ret) .skip)) (js [jm 26 3,jc 27 24 [26,(.k (.c (.r (.v (.string s_k11)))))],jm 2 27] [2] .ret))))
def rv9:List RV:=[.t 2]
open Go.Proofs Go.IntWalk
set_option linter.unusedVariables false
set_option maxHeartbeats 4000000
def dw (g:G) (t:TE):List Trip→List ByteArray→Option (List ByteArray)
 |[],w1=>
  some w1
 |z1::ls1,w1=>
  cl (mb g t z1) fun x1=>
  lP ([x1]) fun(l3:List ByteArray)=>
  gd (((w1.length+l3.length)*16≤70368744177664))<|
  lP (w1++l3) fun(l4:List ByteArray)=>
  dw g t ls1 l4
def dU (g:G) (t:TE) (a0:Belief):Option ByteArray:=
 lP ([]) fun(l1:List ByteArray)=>
 gd (((l1.length+a0.Places.length)*16≤70368744177664))<|
 lP (l1++a0.Places) fun(l2:List ByteArray)=>
 cl (dw g t a0.Rides l2) fun y1=>
 br (g.eq (g.int (g.dlen (t.d_S y1))) 0)
 (
  some ib)
 (
  cl (lm g t y1 uo) fun x2=>
  some x2)
theorem jJ {g:G} {t:TE} {a0:Belief} {r:ByteArray} (hg:g=G.real) (ht:t=TE.real) (h:dU g t a0=some r):Fn Tryz.prog 9 [.g (Belief.rs t a0)] (.c (.r (.v (.string r)))):=by
 obtain⟨X,hX⟩:=aE (.c (.r (.v (.string r))):X);rw[←hX];refine aB (rvs:=rv9) (j:=(ir9 str_k0 ib uo)) Tryz.func9 rfl (by kernel_rfl) (nb rfl) (by kernel_rfl) af ?_;intro g2 F hg2 hF;obtain rfl:g2=g:=hg2.unique.trans hg.symm;clear hg2;obtain⟨wrap,lt,_,eq,_,_,_,_,_,_,_,_,int,add,_,_,_,_,_,_,_,llen,_,_,dlen,_,_,_,rd⟩:=g2;obtain⟨_,_,_,_,_,_,_,_,r_S,d_S,r_Trip⟩:=t
 obtain⟨a0_Places,a0_Rides⟩:=a0;unfold dU at h;try dsimp only at h
 obtain⟨s_k0,hs_k0⟩:∃s,str_k0=s:=⟨_,rfl⟩;try rw[hs_k0] at h
 rw[hs_k0];obtain⟨s_k10,hs_k10⟩:∃s,ib=s:=⟨_,rfl⟩;try rw[hs_k10] at h
 rw[hs_k10];obtain⟨s_k11,hs_k11⟩:∃s,uo=s:=⟨_,rfl⟩;try rw[hs_k11] at h
 rw[hs_k11];cbv;obtain⟨l1,hl1,h⟩:=ah h;try dsimp only at h
 refine ANew.mk (d_S l1) (dlen (d_S l1)) (by rw[←hl1];exact gl hg ht []) (by rw[←hl1];exact ez hg ht []) ?_;cbv;obtain⟨hc2,h⟩:=aj h;refine AStep.mk (cE hg ht (al hg ht _) (EH hg ht _) hc2) ?_;cbv;obtain⟨l2,hl2,h⟩:=ah h;try dsimp only at h
 refine ANew.mk (d_S l2) (dlen (d_S l2)) (by rw[←hl2];exact gK hg ht (al hg ht _) (EH hg ht _)) (by rw[←hl2];exact eF hg ht (al hg ht _) (EH hg ht _)) ?_;cbv;obtain⟨o1,ho1,h⟩:=ac h;try dsimp only at h
 try rw[hg] at ho1
 try rw[ht] at ho1
 refine ABL.mk {p:Nat×Int×List ByteArray//p.1≤a0_Rides.length∧p.2.1=((p.1:Nat):Int)∧dw G.real TE.real (List.drop p.1 a0_Rides) p.2.2=some o1} (fun⟨⟨k1,v1,w1⟩,_⟩=>({sl:=[(3,.c (.f 0 1 0 (dlen (d_S w1)))),(11,.c (.r (.s 2 (r_Trip a0_Rides)))),(12,.c (.r (.v (.int .i64 (llen (r_Trip a0_Rides)))))),(13,.c (.r (.v (.int .i64 v1))))],tab:=[(0,some (.arr 1 (d_S w1)))]}:St)) 1 (fun p=>a0_Rides.length-p.1.1) ⟨(0,0,l2),Nat.zero_le _,rfl,ho1⟩ (List ByteArray) (fun y1=>({sl:=[(3,.c (.f 0 1 0 (dlen (d_S y1))))],tab:=[(0,some (.arr 1 (d_S y1)))]}:St)) 1 (fun y=>o1=y) ?_ ?_ ?_
 ·refine Wk.of [(0,some 80)] rfl rfl ?_ ?_
  ·cbv;all_goals exact⟨⟨_,rfl,rfl⟩,⟨_,rfl,rfl⟩,⟨_,rfl,rfl⟩,⟨_,rfl,rfl⟩,trivial⟩
  cbv;all_goals exact⟨⟨_,rfl,rfl⟩,trivial⟩
 ·rintro⟨⟨k1,v1,w1⟩,hk1,hi1,h_1⟩ hq1;have hm1:=(hq1.1 11 _ _ rfl);try dsimp only at hk1 hi1 h_1
  clear hq1;cbv
  by_cases hc1_:k1<a0_Rides.length
  ·have hb1:lt v1 (llen (r_Trip a0_Rides))=true:=lS hg ht hi1 hc1_;have hs1:=rF hg ht hi1 hc1_ hm1;obtain⟨z1,hz1⟩:=aW hc1_;rw[aD hz1] at h_1;rw[dw] at h_1;obtain⟨z1_Leg,z1_Day⟩:=z1;try rw[←hg] at h_1
   try rw[←ht] at h_1
   try dsimp only at h_1
   try rw[hs_k0] at h_1
   try rw[hs_k10] at h_1
   try rw[hs_k11] at h_1
   rw[hb1];cbv;refine AStep.mk (f8 hi1) ?_;cbv;refine AGet.mk _ (kU hg ht hi1 hz1) ?_;cbv;obtain⟨x1,hx1,h_1⟩:=ac h_1;try dsimp only at h_1
   refine ACall.mk _ _ rfl (hF _ _ _ (ug hg ht hx1)) (.inl rfl) (nb rfl) ?_;cbv;obtain⟨l3,hl3,h_1⟩:=ah h_1;try dsimp only at h_1
   refine ANew.mk (d_S l3) (dlen (d_S l3)) (by rw[←hl3];exact gl hg ht [x1]) (by rw[←hl3];exact ez hg ht [x1]) ?_;cbv;obtain⟨hc1,h_1⟩:=aj h_1;refine AStep.mk ⟨⟨rfl,(al hg ht _)⟩,(cE hg ht (al hg ht _) rfl hc1)⟩ ?_;cbv;obtain⟨l4,hl4,h_1⟩:=ah h_1;try dsimp only at h_1
   refine ANew.mk (d_S l4) (dlen (d_S l4)) (by rw[←hl4];exact gK hg ht (al hg ht _) rfl) (by rw[←hl4];exact eF hg ht (al hg ht _) rfl) ?_;cbv;try rw[hg] at h_1
   try rw[ht] at h_1
   refine⟨⟨(k1+1,(wrap .i64 (add v1 1)),l4),hc1_,hs1,h_1⟩,Wk.of [(0,some 145)] rfl rfl ?_ ?_,a7 hc1_⟩
   ·cbv;all_goals exact⟨⟨_,rfl,rfl⟩,⟨_,rfl,rfl⟩,⟨_,rfl,rfl⟩,⟨_,rfl,rfl⟩,trivial⟩
   cbv;all_goals exact⟨⟨_,rfl,rfl⟩,trivial⟩
  have hb1:lt v1 (llen (r_Trip a0_Rides))=false:=kF hg ht hi1 hc1_;rw[List.drop_of_length_le (Nat.le_of_not_lt hc1_)] at h_1;rw[dw] at h_1;try rw[←hg] at h_1
  try rw[←ht] at h_1
  try dsimp only at h_1
  try rw[hs_k0] at h_1
  try rw[hs_k10] at h_1
  try rw[hs_k11] at h_1
  rw[hb1];cbv;refine⟨w1,Wk.of [(0,some 0)] rfl rfl ?_ ?_,(Option.some.inj h_1).symm⟩
  ·cbv;all_goals exact⟨⟨_,rfl,rfl⟩,trivial⟩
  cbv;all_goals exact⟨⟨_,rfl,rfl⟩,trivial⟩
 rintro y1 hy1;replace hy1:=hy1.symm;subst hy1;try dsimp only[lr,lrL,lrp,a9] at h
 cbv
 cases hb2:(eq (int (dlen (d_S y1))) 0)
 rotate_left
 ·rw[ab hb2] at h;cbv;obtain rfl:=Option.some.inj h;exact ARet.mk trivial hX.symm
 rw[aa hb2] at h;cbv;refine AStep.mk (en ht (al hg ht _)) ?_;cbv;obtain⟨x2,hx2,h⟩:=ac h;try dsimp only at h
 refine ACall.mk _ _ (by rw[show rd (d_S y1) 0 (dlen (d_S y1))=r_S y1 from gi hg ht (al hg ht _)];try rfl) (hF _ _ _ (nT hg ht hx2)) (.inr rfl) (nb rfl) ?_
 cbv;obtain rfl:=Option.some.inj h;exact ARet.mk trivial hX.symm
def ir10:J:=js [jq 5 (.box 0),jm 10 kf] [1,2,3,4,5] (js [jl 11 3 5,jc 12 16 [11],jm 13 12,ju 14 13 (.ld true 3 5),ju 15 13 (.call 18 true [14]),ju 16 13 (.mv 4),ju 17 13 (.call 25 true [15,16]),ju 18 13 (.bin .geq .i 17 (ki 0)),jq 19 (.pick 13 18 kf),jm 20 19,ju 21 20 (.ld true 3 5),ju 22 20 (.mv 1),ju 23 20 (.mv 2),ju 24 20 (.mv 3),ju 25 20 (.call 17 true [21,22,23,24]),ju 26 20 (.mv 4),ju 27 20 (.call 19 true [25,26]),jq 28 (.pick 20 27 kf),jm 10 28] [10] .ret)
def rv10:List RV:=[.t 10]
def il (g:G) (t:TE) (a0:Network) (a1:List Scan) (a2:Int) (a3:Int) (a4:ByteArray):Option Bool:=
 cl (c7 g t a0) fun x1=>
 br x1
 (
  cl (dI g t a0) fun x2=>
  lP (dk g t x2 a4) fun x3=>
  br (g.le 0 x3)
  (
   cl (ig g t a0 a1 a2 a3) fun x4=>
   cl (ar g t (Know.mk (Network.mk x4.n.Legs x4.n.Off x4.n.Change) x4.at_ x4.known x4.place (Trip.mk x4.ride.Leg x4.ride.Day) x4.rides x4.free (Spot.mk x4.from_.Place x4.from_.At) (Spot.mk x4.to.Place x4.to.At) x4.more) a4) fun x5=>
   some x5)
  (
   some false))
 (
  some false)
theorem o7 {g:G} {t:TE} {a0:Network} {a1:List Scan} {a2:Int} {a3:Int} {a4:ByteArray} {r:Bool} (hg:g=G.real) (ht:t=TE.real) (h:il g t a0 a1 a2 a3 a4=some r):Fn Tryz.prog 10 [.g (Network.rs t a0),.c (.s 6 (t.r_Scan a1)),.c (.v (.int .i64 a2)),.c (.v (.int .i64 a3)),.c (.v (.string a4))] (.c (.r (.v (.bool r)))):=by
 obtain⟨X,hX⟩:=aE (.c (.r (.v (.bool r))):X);rw[←hX];refine aB (rvs:=rv10) (j:=ir10) Tryz.func10 rfl (by kernel_rfl) (nb rfl) (by kernel_rfl) af ?_;intro g2 F hg2 hF;obtain rfl:g2=g:=hg2.unique.trans hg.symm;clear hg2;obtain⟨_,_,le,_,_,_,_,_,_,_,_,_,_,_,_,_,_,_,_,_,_,_,_,_,dlen,_,_,_,rd⟩:=g2;obtain⟨_,_,_,_,_,_,_,_,r_S,d_S⟩:=t
 obtain⟨a0_Legs,a0_Off,a0_Change⟩:=a0;unfold il at h;try dsimp only at h
 cbv;obtain⟨x1,hx1,h⟩:=ac h;try dsimp only at h
 refine ACall.mk _ _ rfl (hF _ _ _ (fz hg ht hx1)) (.inl rfl) (nb rfl) ?_;cbv
 cases hb1:x1
 ·rw[aa hb1] at h;cbv;iterate 5 try(rw[hb1];cbv)
  obtain rfl:=Option.some.inj h;exact ARet.mk trivial hX.symm
 rw[ab hb1] at h;cbv;try(rw[hb1];cbv)
 obtain⟨x2,hx2,h⟩:=ac h;try dsimp only at h
 refine ACall.mk _ _ rfl (hF _ _ _ (e9 hg ht hx2)) (.inl rfl) (nb rfl) ?_;cbv;iterate 2 try(rw[hb1];cbv)
 refine AStep.mk (en ht (al hg ht _)) ?_;cbv;obtain⟨x3,hx3,h⟩:=ah h;try dsimp only at h
 refine ACall.mk _ _ (by rw[show rd (d_S x2) 0 (dlen (d_S x2))=r_S x2 from gi hg ht (al hg ht _)];try rfl) (hF _ _ _ (eJ hg ht hx3)) (.inr rfl) (nb rfl) ?_
 cbv;iterate 2 try(rw[hb1];cbv)
 cases hb2:(le 0 x3)
 ·rw[aa hb2] at h;cbv;iterate 7 try(rw[hb2];cbv)
  obtain rfl:=Option.some.inj h;exact ARet.mk trivial hX.symm
 rw[ab hb2] at h;cbv;iterate 4 try(rw[hb2];cbv)
 obtain⟨x4,hx4,h⟩:=ac h;obtain⟨⟨x4_n_Legs,x4_n_Off,x4_n_Change⟩,x4_at_,x4_known,x4_place,⟨x4_ride_Leg,x4_ride_Day⟩,x4_rides,x4_free,⟨x4_from__Place,x4_from__At⟩,⟨x4_to_Place,x4_to_At⟩,x4_more⟩:=x4;try dsimp only at h
 refine ACall.mk _ _ rfl (hF _ _ _ (oZ hg ht hx4)) (.inl rfl) (nb rfl) ?_;cbv;iterate 2 try(rw[hb2];cbv)
 obtain⟨x5,hx5,h⟩:=ac h;try dsimp only at h
 refine ACall.mk _ _ rfl (hF _ _ _ (bO hg ht hx5)) (.inl rfl) (nb rfl) ?_;cbv;try(rw[hb2];cbv)
 obtain rfl:=Option.some.inj h;exact ARet.mk trivial hX.symm
def ir11:J:=js [jm 4 (ki 0)] [0,1] (.seq (js [jm 5 (ki 0)] [0,1,5] (.bl 0 (.seq (js [jm 6 5,jm 7 0,jq 8 (.len false 7),jb 9 .lss .i 6 8] [0,1,5,9] (.cond 9 .skip (.exit 0))) (.seq (.block 1 (js [jm 12 0,jm 13 5,ja 14 1 12 13,jk 15 14,jm 16 1,jb 17 .eql .s 15 16] [0,1,5,17] (.cond 17 (js [jm 18 5,jm 4 18] [4] .ret) .skip))) (.reg none [jm 10 5,jb 11 .add .i 10 (ki 1),jm 5 11] [0,1,5]))))) (js [jq 4 (.mv (.k (V.i (-1))))] [4] .ret))
def rv11:List RV:=[.t 4]
def fH (g:G) (t:TE) (a1:ByteArray):List ByteArray→Int→LR Int Unit
 |[],v1=>
  (LR.out ())
 |z1::ls1,v1=>
  br (g.seq z1 a1)
  (
   (LR.ret v1))
  (
   fH g t a1 ls1 (g.wrap .i64 (g.add v1 1)))
def m7 (g:G) (t:TE) (a0:List ByteArray) (a1:ByteArray):Int:=
 lP (fH g t a1 a0 0) fun o1=>lrp o1 fun y1=>
 (-1)
theorem Ad {g:G} {t:TE} {a0:List ByteArray} {a1:ByteArray} {r:Int} (hg:g=G.real) (ht:t=TE.real) (h:m7 g t a0 a1=r):Fn Tryz.prog 11 [.c (.s 1 (t.r_S a0)),.c (.v (.string a1))] (.c (.r (.v (.int .i64 r)))):=by
 obtain⟨X,hX⟩:=aE (.c (.r (.v (.int .i64 r))):X);rw[←hX];refine aB (rvs:=rv11) (j:=ir11) Tryz.func11 rfl (by kernel_rfl) (nb rfl) (by kernel_rfl) af ?_;intro g2 F hg2 hF;obtain rfl:g2=g:=hg2.unique.trans hg.symm;clear hg2;obtain⟨wrap,lt,_,_,_,_,_,_,_,_,_,_,_,add,_,_,_,seq,_,_,_,llen⟩:=g2;obtain⟨_,_,_,_,_,_,_,_,r_S⟩:=t
 unfold m7 at h;try dsimp only at h
 cbv;obtain⟨o1,ho1,h⟩:=ah h;try dsimp only at h
 try rw[hg] at ho1
 try rw[ht] at ho1
 refine ABL.mk {p:Nat×Int//p.1≤a0.length∧p.2=((p.1:Nat):Int)∧fH G.real TE.real a1 (List.drop p.1 a0) p.2=o1} (fun⟨⟨k1,v1⟩,_⟩=>({sl:=[(0,.c (.r (.s 1 (r_S a0)))),(1,.c (.r (.v (.string a1)))),(5,.c (.r (.v (.int .i64 v1))))],tab:=[]}:St)) 0 (fun p=>a0.length-p.1.1) ⟨(0,0),Nat.zero_le _,rfl,ho1⟩ (Unit) (fun _=>({sl:=[],tab:=[]}:St)) 0 (fun y=>o1=LR.out y) ?_ ?_ ?_
 ·refine Wk.of [] rfl rfl ?_ ?_
  ·cbv;all_goals exact⟨⟨_,rfl,rfl⟩,⟨_,rfl,rfl⟩,⟨_,rfl,rfl⟩,trivial⟩
  cbv;all_goals exact trivial
 ·rintro⟨⟨k1,v1⟩,hk1,hi1,h_1⟩ hq1;have hm1:=(hq1.1 0 _ _ rfl);try dsimp only at hk1 hi1 h_1
  clear hq1;cbv
  by_cases hc1_:k1<a0.length
  ·have hb1:lt v1 (llen (r_S a0))=true:=iu hg ht hi1 hc1_;have hs1:=nq hg ht hi1 hc1_ hm1;obtain⟨z1,hz1⟩:=aW hc1_;rw[aD hz1] at h_1;rw[fH] at h_1;try rw[←hg] at h_1
   try rw[←ht] at h_1
   try dsimp only at h_1
   rw[hb1];cbv;refine AStep.mk (f8 hi1) ?_;cbv;refine AGet.mk _ (kD hg ht hi1 hz1) ?_;cbv
   cases hb2:(seq z1 a1)
   rotate_left
   ·rw[ab hb2] at h_1;cbv;subst h_1;try dsimp only[lr,lrL,lrp,a9] at h
    subst h;exact ARet.mk trivial hX.symm
   rw[aa hb2] at h_1;cbv;try rw[hg] at h_1
   try rw[ht] at h_1
   refine⟨⟨(k1+1,(wrap .i64 (add v1 1))),hc1_,hs1,h_1⟩,Wk.of [] rfl rfl ?_ ?_,a7 hc1_⟩
   ·cbv;all_goals exact⟨⟨_,rfl,rfl⟩,⟨_,rfl,rfl⟩,⟨_,rfl,rfl⟩,trivial⟩
   cbv;all_goals exact trivial
  have hb1:lt v1 (llen (r_S a0))=false:=gQ hg ht hi1 hc1_;rw[List.drop_of_length_le (Nat.le_of_not_lt hc1_)] at h_1;rw[fH] at h_1;try rw[←hg] at h_1
  try rw[←ht] at h_1
  try dsimp only at h_1
  rw[hb1];cbv;refine⟨(),Wk.of [] rfl rfl ?_ ?_,h_1.symm⟩
  ·cbv;all_goals exact trivial
  cbv;all_goals exact trivial
 rintro _ hy1;replace hy1:=hy1.symm;subst hy1;try dsimp only[lr,lrL,lrp,a9] at h
 cbv;subst h;exact ARet.mk trivial hX.symm
def ir12:J:=js [jq 5 (.box 0),jq 10 (.mv (.k (.c (.n 1))))] [1,2,3,4,5] (js [jq 14 (.bsl 1 []),jm 11 14] [1,2,3,4,5,11] (.seq (js [jl 15 3 5,jm 16 1,jm 17 2,jm 18 4,jc 19 6 [15,16,17,18],jq 20 (.fld false 0 1 19),jq 21 (.len false 20),jm 22 (ki 0)] [1,3,4,5,11,20,21,22] (.bl 0 (js [jb 23 .lss .i 22 21] [1,3,4,5,11,20,21,22,23] (.seq (.cond 23 .skip (.exit 0)) (.seq (.block 1 (js [ja 24 1 20 22,jk 25 24,jm 13 25] [1,3,4,5,11,13,20,21,22] (js [jl 26 3 5,jm 27 1,jm 28 3,jm 29 4,jm 30 13,jc 31 10 [26,27,28,29,30]] [1,3,4,5,11,13,20,21,22,31] (.cond 31 (.reg none [jm 32 11,jm 33 13,jq 34 (.bsl 1 [33]),jq 35 (.app 1 16 true 32 34),jm 11 35] [1,3,4,5,11,20,21,22]) .skip)))) (.reg none [jb 36 .add .i 22 (ki 1),jm 22 36] [1,3,4,5,11,20,21,22])))))) (js [jm 37 11,jm 10 37] [10] .ret)))
def rv12:List RV:=[.t 10]
def ed (g:G) (t:TE) (a0:Network) (a1:List Scan) (a3:Int) (a4:Int) (x1:Belief):Nat→Int→List ByteArray→Option (List ByteArray)
 |0,v1,w1=>
  some w1
 |n1+1,v1,w1=>
  gt x1.Places (g.nat v1) fun x2=>
  cl (il g t a0 a1 a3 a4 x2) fun x3=>
  br x3
  (
   lP ([x2]) fun(l2:List ByteArray)=>
   gd (((w1.length+l2.length)*16≤70368744177664))<|
   lP (w1++l2) fun(l3:List ByteArray)=>
   ed g t a0 a1 a3 a4 x1 n1 (g.wrap .i64 (g.add v1 1)) l3)
  (
   ed g t a0 a1 a3 a4 x1 n1 (g.wrap .i64 (g.add v1 1)) w1)
def lA (g:G) (t:TE) (a0:Network) (a1:List Scan) (a2:Int) (a3:Int) (a4:Int):Option (List ByteArray):=
 lP ([]) fun(l1:List ByteArray)=>
 cl (go g t a0 a1 a2 a4) fun x1=>
 gd (((g.int (g.dlen (t.d_S x1.Places)))≤9223372036854775807))<|
 cl (ed g t a0 a1 a3 a4 x1 (ap 0 (g.int (g.dlen (t.d_S x1.Places)))) 0 l1) fun y1=>
 some y1
theorem si {g:G} {t:TE} {a0:Network} {a1:List Scan} {a2:Int} {a3:Int} {a4:Int} {r:List ByteArray} (hg:g=G.real) (ht:t=TE.real) (h:lA g t a0 a1 a2 a3 a4=some r):Fn Tryz.prog 12 [.g (Network.rs t a0),.c (.s 6 (t.r_Scan a1)),.c (.v (.int .i64 a2)),.c (.v (.int .i64 a3)),.c (.v (.int .i64 a4))] (.c (.o 1 (t.d_S r))):=by
 obtain⟨X,hX⟩:=aE (.c (.o 1 (t.d_S r)):X);rw[←hX];refine aB (rvs:=rv12) (j:=ir12) Tryz.func12 rfl (by kernel_rfl) (nb rfl) (by kernel_rfl) af ?_;intro g2 F hg2 hF;obtain rfl:g2=g:=hg2.unique.trans hg.symm;clear hg2;obtain⟨wrap,lt,_,_,_,_,_,_,_,_,_,_,int,add,_,_,_,_,_,_,_,_,_,_,dlen⟩:=g2;obtain⟨_,_,r_Leg,_,r_I64,_,r_Scan,_,_,d_S⟩:=t
 obtain⟨a0_Legs,a0_Off,a0_Change⟩:=a0;unfold lA at h;try dsimp only at h
 cbv;obtain⟨l1,hl1,h⟩:=ah h;try dsimp only at h
 refine ANew.mk (d_S l1) (dlen (d_S l1)) (by rw[←hl1];exact gl hg ht []) (by rw[←hl1];exact ez hg ht []) ?_;cbv;obtain⟨x1,hx1,h⟩:=ac h;obtain⟨x1_Places,x1_Rides⟩:=x1;try dsimp only at h
 refine ACall.mk _ _ rfl (hF _ _ _ (nt hg ht hx1)) (.inl rfl) (nb rfl) ?_;cbv;obtain⟨hB1,h⟩:=aj h;obtain⟨o1,ho1,h⟩:=ac h;try dsimp only at h
 try rw[hg] at ho1
 try rw[ht] at ho1
 refine ABL.mk {p:Nat×Int×List ByteArray//p.1=ap p.2.1 (int (dlen (d_S x1_Places)))∧0≤p.2.1∧ed G.real TE.real (Network.mk a0_Legs a0_Off a0_Change) a1 a3 a4 (Belief.mk x1_Places x1_Rides) p.1 p.2.1 p.2.2=some o1} (fun⟨⟨n1,v1,w1⟩,_⟩=>({sl:=[(1,.c (.r (.s 6 (r_Scan a1)))),(3,.c (.r (.v (.int .i64 a3)))),(4,.c (.r (.v (.int .i64 a4)))),(5,.c (.p 0 3 0 0)),(11,.c (.f 1 1 0 (dlen (d_S w1)))),(20,.c (.f 2 1 0 (dlen (d_S x1_Places)))),(21,.c (.r (.v (.int .i64 (int (dlen (d_S x1_Places))))))),(22,.c (.r (.v (.int .i64 v1))))],tab:=[(0,some (.foc 3 [] [.r (.s 6 (r_Leg a0_Legs)),.r (.s 1 (r_I64 a0_Off)),.r (.v (.int .i64 a0_Change))] [])),(1,some (.arr 1 (d_S w1))),(2,some (.arr 1 (d_S x1_Places)))]}:St)) 3 (fun p=>p.1.1) ⟨(ap 0 (int (dlen (d_S x1_Places))),0,l1),rfl,Int.le_refl _,ho1⟩ (List ByteArray) (fun y1=>({sl:=[(11,.c (.f 0 1 0 (dlen (d_S y1))))],tab:=[(0,some (.arr 1 (d_S y1)))]}:St)) 1 (fun y=>o1=y) ?_ ?_ ?_
 ·refine Wk.of [(0,some 0),(1,some 32),(2,some 128)] rfl rfl ?_ ?_
  ·cbv;all_goals exact⟨⟨_,rfl,rfl⟩,⟨_,rfl,rfl⟩,⟨_,rfl,rfl⟩,⟨_,rfl,rfl⟩,⟨_,rfl,rfl⟩,⟨_,rfl,rfl⟩,⟨_,rfl,rfl⟩,⟨_,rfl,rfl⟩,trivial⟩
  cbv;all_goals exact⟨⟨_,rfl,_,rfl,rfl,rfl,rfl,trivial⟩,⟨_,rfl,rfl⟩,⟨_,rfl,rfl⟩,trivial⟩
 ·rintro⟨⟨n1,v1,w1⟩,hn1,hi1,h_1⟩ hq1;try dsimp only at hn1 hi1 h_1
  clear hq1;cbv;rcases n1 with _|n1
  ·have hb1:lt v1 (int (dlen (d_S x1_Places)))=false:=bc hg hn1;rw[ed] at h_1;try rw[←hg] at h_1
   try rw[←ht] at h_1
   try dsimp only at h_1
   rw[hb1];cbv;refine⟨w1,Wk.of [(0,some 1)] rfl rfl ?_ ?_,(Option.some.inj h_1).symm⟩
   ·cbv;all_goals exact⟨⟨_,rfl,rfl⟩,trivial⟩
   cbv;all_goals exact⟨⟨_,rfl,rfl⟩,trivial⟩
  have hb1:lt v1 (int (dlen (d_S x1_Places)))=true:=bz hg hn1;have hl1:=dj hn1;have hs1:=cr hg hn1 hi1 hB1 (by decide);rw[ed] at h_1;try rw[←hg] at h_1
  try rw[←ht] at h_1
  try dsimp only at h_1
  rw[hb1];cbv;refine AStep.mk (dV hg hi1 hl1) ?_;cbv;obtain⟨x2,hx2,h_1⟩:=aP h_1;try dsimp only at h_1
  refine AGet.mk _ (iY hg ht hx2) ?_;cbv;obtain⟨x3,hx3,h_1⟩:=ac h_1;try dsimp only at h_1
  refine ACall.mk _ _ rfl (hF _ _ _ (o7 hg ht hx3)) (.inl rfl) (nb rfl) ?_;cbv
  cases hb2:x3
  ·rw[aa hb2] at h_1;cbv;try rw[hg] at h_1
   try rw[ht] at h_1
   refine⟨⟨(n1,(wrap .i64 (add v1 1)),w1),hs1.1,hs1.2,h_1⟩,Wk.of [(0,some 0),(1,some 1),(2,some 2)] rfl rfl ?_ ?_,Nat.lt_succ_self _⟩
   ·cbv;all_goals exact⟨⟨_,rfl,rfl⟩,⟨_,rfl,rfl⟩,⟨_,rfl,rfl⟩,⟨_,rfl,rfl⟩,⟨_,rfl,rfl⟩,⟨_,rfl,rfl⟩,⟨_,rfl,rfl⟩,⟨_,rfl,rfl⟩,trivial⟩
   cbv;all_goals exact⟨⟨_,rfl,_,rfl,rfl,rfl,rfl,trivial⟩,⟨_,rfl,rfl⟩,⟨_,rfl,rfl⟩,trivial⟩
  rw[ab hb2] at h_1;cbv;obtain⟨l2,hl2,h_1⟩:=ah h_1;try dsimp only at h_1
  refine ANew.mk (d_S l2) (dlen (d_S l2)) (by rw[←hl2];exact gl hg ht [x2]) (by rw[←hl2];exact ez hg ht [x2]) ?_;cbv;obtain⟨hc1,h_1⟩:=aj h_1;refine AStep.mk ⟨⟨rfl,(al hg ht _)⟩,(cE hg ht (al hg ht _) rfl hc1)⟩ ?_;cbv;obtain⟨l3,hl3,h_1⟩:=ah h_1;try dsimp only at h_1
  refine ANew.mk (d_S l3) (dlen (d_S l3)) (by rw[←hl3];exact gK hg ht (al hg ht _) rfl) (by rw[←hl3];exact eF hg ht (al hg ht _) rfl) ?_;cbv;try rw[hg] at h_1
  try rw[ht] at h_1
  refine⟨⟨(n1,(wrap .i64 (add v1 1)),l3),hs1.1,hs1.2,h_1⟩,Wk.of [(0,some 0),(1,some 211),(2,some 2)] rfl rfl ?_ ?_,Nat.lt_succ_self _⟩
  ·cbv;all_goals exact⟨⟨_,rfl,rfl⟩,⟨_,rfl,rfl⟩,⟨_,rfl,rfl⟩,⟨_,rfl,rfl⟩,⟨_,rfl,rfl⟩,⟨_,rfl,rfl⟩,⟨_,rfl,rfl⟩,⟨_,rfl,rfl⟩,trivial⟩
  cbv;all_goals exact⟨⟨_,rfl,_,rfl,rfl,rfl,rfl,trivial⟩,⟨_,rfl,rfl⟩,⟨_,rfl,rfl⟩,trivial⟩
 rintro y1 hy1;replace hy1:=hy1.symm;subst hy1;try dsimp only[lr,lrL,lrp,a9] at h
 cbv;obtain rfl:=Option.some.inj h;exact ARet.mk ⟨rfl,(al hg ht _)⟩ hX.symm
def ir3 (s_k10:ByteArray):J:=js [jm 2 kf] [0] (.seq (js [jm 11 0,jc 12 4 [11]] [0,12] (.cond 12 (js [jm 2 kt] [2] .ret) .skip)) (js [jm 14 0,jq 15 (.call 5 false [14]),jm 13 15,jq 16 (.ext 0 13),jq 17 (.ext 1 13),jq 18 (.ext 2 13),jq 19 (.ext 3 13),jq 3 (.alloc [.n 6,.n 1,.r (.v (.int .i64 0))]),jp (.st 3 3 16),jm 4 17,jm 5 18,jm 6 19] [3,4,5,6] (js [jl 20 3 3,jm 21 4,jm 22 5,jm 23 6,jq 24 (.call 6 false [20,21,22,23]),jq 7 (.alloc [.n 1,.n 2]),jp (.st 2 7 24)] [3,4,5,6,7] (js [jl 26 3 3,jm 27 4,jm 28 5,jm 29 6,jc 30 7 [26,27,28,29],jm 25 30,jq 31 (.ext 0 25),jq 32 (.ext 1 25),jq 8 (.alloc [.r (.v (.int .i64 0)),.r (.v (.int .i64 0)),.r (.v (.int .i64 0)),.r (.v (.string .empty)),.r (.v (.int .i64 0)),.r (.v (.int .i64 0))]),jp (.st 6 8 31),jm 9 32] [3,4,5,6,7,8,9] (.seq (js [jm 33 9,jq 34 (.not 33),jm 35 34,jv 36 35 (.fa 2 8),jv 37 35 (.ld false 1 36),jv 38 35 (.bin .eql .i 37 (ki 4)),jq 39 (.pick 35 kt 38)] [3,4,5,6,7,39] (.cond 39 (js [jl 40 2 7,jc 41 8 [40],jb 42 .eql .i 41 (ki 0),jm 43 42,ju 44 43 (.ld true 2 7),ju 45 43 (.call 9 true [44]),ju 46 43 (.bin .eql .s 45 (.k (.c (.r (.v (.string s_k10)))))),jq 47 (.pick 43 46 kf),jm 2 47] [2] .ret) .skip)) (.seq (js [jm 10 (ki 0)] [3,4,5,6,7,10] (.bl 0 (.seq (js [jm 48 10,jf 49 0 7,jk 50 49,jq 51 (.len false 50),jb 52 .lss .i 48 51] [3,4,5,6,7,10,52] (.cond 52 .skip (.exit 0))) (.seq (.block 1 (.seq (.reg (some [[],[],[],[],[],[4],[],[4,5,6],[4,5,6,7],[0,1,2,3,4,5,6,7,8],[0,1,2,3,4,5,6,7,8,9],[0,1,2,3,4,5,6,7,8,9,10],[0,1,2,3,4,5,6,7,8,9,10,11],[0,1,2,3,4,5,6,7,8,9,10,11],[0,1,2,3,4,5,6,7,8,9,10,11],[0,1,2,3,4,5,6,7,8,9,10,11],[0,1,2,3,4,5,6,7,8,9,10,11],[0,1,2,3,4,5,6,7,8,9,10,11,12,13,14,15,16],[0,1,2,3,4,5,6,7,8,9,10,11],[0,1,2,3,4,5,6,7,8,9,10,11,18],[0,1,2,3,4,5,6,7,8,9,10,11],[0,1,2,3,4,5,6,7,8,9,10,11,18,19,20],[0,1,2,3,4,5,6,7,8,9,10,11,18,19,20,21],[0,1,2,3,4,5,6,7,8,9,10,11,12,13,14,15,16,17,18,19,20,21,22],[0,1,2,3,4,5,6,7,8,9,10,11,12,13,14,15,16,17,18,19,20,21,22,23],[0,1,2,3,4,5,6,7,8,9,10,11,12,13,14,15,16,17,18,19,20,21,22,23,24]]) [jl 55 3 3,jm 56 4,jm 57 5,jm 58 6,jf 59 0 7,jk 60 59,jm 61 10,ja 62 1 60 61,jk 63 62,jc 64 10 [55,56,57,58,63],jq 65 (.not 64),jm 66 65,jv 67 66 (.ld true 3 3),jv 68 66 (.mv 4),jv 69 66 (.mv 5),jv 70 66 (.mv 5),jv 71 66 (.mv 6),jv 72 66 (.call 12 false [67,68,69,70,71]),jv 73 66 (.fa 0 7),jv 74 66 (.ld false 1 73),jv 75 66 (.mv 10),jv 76 66 (.ia 1 74 75),jv 77 66 (.ld false 1 76),jv 78 66 (.call 11 true [72,77]),jv 79 66 (.bin .lss .i 78 (ki 0)),jq 80 (.pick 66 kt 79)] [3,4,5,6,7,10,80]) (.cond 80 (js [jm 2 kf] [2] .ret) .skip))) (.reg none [jm 53 10,jb 54 .add .i
 53 (ki 1),jm 10 54] [3,4,5,6,7,10]))))) (.seq (.reg (some [[],[],[],[],[],[0,1,2,3,4],[0,1,2,3,4,5],[],[7],[7,8],[0,1,2,3,4,5,6,7,8,9],[0,1,2,3,4,5,6,7,8,9,10]]) [jl 81 3 3,jm 82 4,jm 83 5,jm 84 5,jm 85 6,jq 86 (.call 12 false [81,82,83,84,85]),jq 87 (.len false 86),jf 88 0 7,jk 89 88,jq 90 (.len false 89),jb 91 .eql .i 87 90,jm 2 91] [2]) .ret)))))))
def rv3:List RV:=[.t 2]
def cZ (g:G) (t:TE) (x2:Network×(List Scan)×Int×Int):List ByteArray→Option (LR Bool Unit)
 |[]=>
  some (LR.out ())
 |z1::ls1=>
  cl (il g t (Network.mk x2.1.Legs x2.1.Off x2.1.Change) x2.2.1 x2.2.2.1 x2.2.2.2 z1) fun x7=>
  br x7
  (
   cl (lA g t (Network.mk x2.1.Legs x2.1.Off x2.1.Change) x2.2.1 x2.2.2.1 x2.2.2.1 x2.2.2.2) fun x8=>
   lP (m7 g t x8 z1) fun x9=>
   br (g.lt x9 0)
   (
    some (LR.ret false))
   (
    cZ g t x2 ls1))
  (
   some (LR.ret false))
def iz (g:G) (t:TE) (a0:List Int):Option Bool:=
 lP (rZ g t a0) fun x1=>
 br x1
 (
  some true)
 (
  cl (eO g t a0) fun x2=>
  cl (go g t (Network.mk x2.1.Legs x2.1.Off x2.1.Change) x2.2.1 x2.2.2.1 x2.2.2.2) fun x3=>
  cl (gq g t (Network.mk x2.1.Legs x2.1.Off x2.1.Change) x2.2.1 x2.2.2.1 x2.2.2.2) fun x4=>
  br x4.2
  (
   br (g.eq x4.1.Kind 4)
   (
    lP (lE g t x3) fun x5=>
    br (g.eq x5 0)
    (
     cl (dU g t x3) fun x6=>
     some (g.seq x6 ib))
    (
     some false))
   (
    cl (cZ g t x2 x3.Places) fun o1=>lr o1 fun y1=>
    cl (lA g t (Network.mk x2.1.Legs x2.1.Off x2.1.Change) x2.2.1 x2.2.2.1 x2.2.2.1 x2.2.2.2) fun x10=>
    some (g.eq (g.llen (t.r_S x10)) (g.llen (t.r_S x3.Places)))))
  (
   lP (lE g t x3) fun x11=>
   br (g.eq x11 0)
   (
    cl (dU g t x3) fun x12=>
    some (g.seq x12 ib))
   (
    some false)))
theorem uj {g:G} {t:TE} {a0:List Int} {r:Bool} (hg:g=G.real) (ht:t=TE.real) (h:iz g t a0=some r):Fn Tryz.prog 3 [.c (.s 1 (t.r_U8 a0))] (.c (.r (.v (.bool r)))):=by
 obtain⟨X,hX⟩:=aE (.c (.r (.v (.bool r))):X);rw[←hX];refine aB (rvs:=rv3) (j:=(ir3 ib)) Tryz.func3 rfl (by kernel_rfl) (nb rfl) (by kernel_rfl) af ?_;intro g2 F hg2 hF;obtain rfl:g2=g:=hg2.unique.trans hg.symm;clear hg2;obtain⟨wrap,lt,_,eq,_,_,_,_,_,_,_,_,_,add,_,_,_,_,_,_,_,llen,_,_,_,_,_,_,_,rda⟩:=g2;obtain⟨_,_,r_Leg,d_Leg,r_I64,d_I64,r_Scan,d_Scan,r_S,d_S,r_Trip,d_Trip⟩:=t
 have hrda_Leg:∀l,rda (d_Leg l)=r_Leg l:=yO hg ht;have hrda_I64:∀l,rda (d_I64 l)=r_I64 l:=t6 hg ht;have hrda_Scan:∀l,rda (d_Scan l)=r_Scan l:=u7 hg ht;have hrda_S:∀l,rda (d_S l)=r_S l:=DL hg ht;have hrda_Trip:∀l,rda (d_Trip l)=r_Trip l:=BR hg ht;unfold iz at h;try dsimp only at h
 obtain⟨s_k10,hs_k10⟩:∃s,ib=s:=⟨_,rfl⟩;try rw[hs_k10] at h
 rw[hs_k10];cbv;obtain⟨x1,hx1,h⟩:=ah h;try dsimp only at h
 refine ACall.mk _ _ rfl (hF _ _ _ (CY hg ht hx1)) (.inl rfl) (nb rfl) ?_;cbv
 cases hb1:x1
 rotate_left
 ·rw[ab hb1] at h;cbv;obtain rfl:=Option.some.inj h;exact ARet.mk trivial hX.symm
 rw[aa hb1] at h;cbv;obtain⟨x2,hx2,h⟩:=ac h;obtain⟨⟨x2_1_Legs,x2_1_Off,x2_1_Change⟩,x2_2_1,x2_2_2_1,x2_2_2_2⟩:=x2;try dsimp only at h
 refine ACallR.mk _ _ (.u [.g [.r (.s 6 (r_Leg x2_1_Legs)),.r (.s 1 (r_I64 x2_1_Off)),.r (.v (.int .i64 x2_1_Change))],.c (.r (.s 6 (r_Scan x2_2_1))),.c (.r (.v (.int .i64 x2_2_2_1))),.c (.r (.v (.int .i64 x2_2_2_2)))]) rfl (hF _ _ _ (ot hg ht hx2)) (.inl rfl) (nb rfl) (by cbv;(try simp only[hrda_I64,hrda_Leg,hrda_Scan])) ?_;cbv;obtain⟨x3,hx3,h⟩:=ac h;obtain⟨x3_Places,x3_Rides⟩:=x3;try dsimp only at h
 refine ACallR.mk _ _ (.g [.r (.s 1 (r_S x3_Places)),.r (.s 2 (r_Trip x3_Rides))]) rfl (hF _ _ _ (nt hg ht hx3)) (.inl rfl) (nb rfl) (by cbv;(try simp only[hrda_S,hrda_Trip])) ?_;cbv;obtain⟨x4,hx4,h⟩:=ac h;obtain⟨⟨x4_1_Thing,x4_1_At,x4_1_Kind,x4_1_Place,⟨x4_1_Trip_Leg,x4_1_Trip_Day⟩⟩,x4_2⟩:=x4;try dsimp only at h
 refine ACall.mk _ _ rfl (hF _ _ _ (mY hg ht hx4)) (.inl rfl) (nb rfl) ?_;cbv;have hb2:x4_2=true∨x4_2=false:=by cases x4_2<;>simp
 rcases hb2 with hb2|hb2
 ·rw[ab hb2] at h;have hK_:=h;subst hb2;have h:=hK_;clear hK_;cbv;iterate 3 try(rw[hb2];cbv)
  cases hb3:(eq x4_1_Kind 4)
  rotate_left
  ·rw[ab hb3] at h;cbv;obtain⟨x5,hx5,h⟩:=ah h;try dsimp only at h
   refine ACall.mk _ _ rfl (hF _ _ _ (sJ hg ht hx5)) (.inl rfl) (nb rfl) ?_;cbv
   cases hb4:(eq x5 0)
   ·rw[aa hb4] at h;cbv;iterate 3 try(rw[hb4];cbv)
    obtain rfl:=Option.some.inj h;exact ARet.mk trivial hX.symm
   rw[ab hb4] at h;cbv;try(rw[hb4];cbv)
   obtain⟨x6,hx6,h⟩:=ac h;try dsimp only at h
   refine ACall.mk _ _ rfl (hF _ _ _ (jJ hg ht hx6)) (.inl rfl) (nb rfl) ?_;cbv;iterate 2 try(rw[hb4];cbv)
   obtain rfl:=Option.some.inj h;exact ARet.mk trivial hX.symm
  rw[aa hb3] at h;cbv;obtain⟨o1,ho1,h⟩:=ac h;try dsimp only at h
  try rw[hg] at ho1
  try rw[ht] at ho1
  refine ABL.mk {p:Nat×Int//p.1≤x3_Places.length∧p.2=((p.1:Nat):Int)∧cZ G.real TE.real ((Network.mk x2_1_Legs x2_1_Off x2_1_Change),x2_2_1,x2_2_2_1,x2_2_2_2) (List.drop p.1 x3_Places)=some o1} (fun⟨⟨k1,v1⟩,_⟩=>({sl:=[(3,.c (.p 0 3 0 0)),(4,.c (.r (.s 6 (r_Scan x2_2_1)))),(5,.c (.r (.v (.int .i64 x2_2_2_1)))),(6,.c (.r (.v (.int .i64 x2_2_2_2)))),(7,.c (.p 1 2 0 0)),(10,.c (.r (.v (.int .i64 v1))))],tab:=[(0,some (.foc 3 [] [.r (.s 6 (r_Leg x2_1_Legs)),.r (.s 1 (r_I64 x2_1_Off)),.r (.v (.int .i64 x2_1_Change))] [])),(1,some (.foc 2 [] [.r (.s 1 (r_S x3_Places)),.r (.s 2 (r_Trip x3_Rides))] []))]}:St)) 2 (fun p=>x3_Places.length-p.1.1) ⟨(0,0),Nat.zero_le _,rfl,ho1⟩ (Unit) (fun _=>({sl:=[(3,.c (.p 0 3 0 0)),(4,.c (.r (.s 6 (r_Scan x2_2_1)))),(5,.c (.r (.v (.int .i64 x2_2_2_1)))),(6,.c (.r (.v (.int .i64 x2_2_2_2)))),(7,.c (.p 1 2 0 0))],tab:=[(0,some (.foc 3 [] [.r (.s 6 (r_Leg x2_1_Legs)),.r (.s 1 (r_I64 x2_1_Off)),.r (.v (.int .i64 x2_1_Change))] [])),(1,some (.foc 2 [] [.r (.s 1 (r_S x3_Places)),.r (.s 2 (r_Trip x3_Rides))] []))]}:St)) 2 (fun y=>o1=LR.out y) ?_ ?_ ?_
  ·refine Wk.of [(0,some 160),(1,some 320)] rfl rfl ?_ ?_
   ·cbv;all_goals exact⟨⟨_,rfl,rfl⟩,⟨_,rfl,rfl⟩,⟨_,rfl,rfl⟩,⟨_,rfl,rfl⟩,⟨_,rfl,rfl⟩,⟨_,rfl,rfl⟩,trivial⟩
   cbv;all_goals exact⟨⟨_,rfl,_,rfl,rfl,rfl,rfl,trivial⟩,⟨_,rfl,_,rfl,rfl,rfl,trivial⟩,trivial⟩
  ·rintro⟨⟨k1,v1⟩,hk1,hi1,h_1⟩ hq1;have hm1:=(hq1.2.2.1 1 _ _ _ _ 0 _ _ rfl rfl);try dsimp only at hk1 hi1 h_1
   clear hq1;cbv
   by_cases hc1_:k1<x3_Places.length
   ·have hb5:lt v1 (llen (r_S x3_Places))=true:=iu hg ht hi1 hc1_;have hs1:=nq hg ht hi1 hc1_ hm1;obtain⟨z1,hz1⟩:=aW hc1_;rw[aD hz1] at h_1;rw[cZ] at h_1;try rw[←hg] at h_1
    try rw[←ht] at h_1
    try dsimp only at h_1
    try rw[hs_k10] at h_1
    rw[hb5];cbv;refine AStep.mk (f8 hi1) ?_;cbv;refine AGet.mk _ (kD hg ht hi1 hz1) ?_;cbv;obtain⟨x7,hx7,h_1⟩:=ac h_1;try dsimp only at h_1
    refine ACall.mk _ _ rfl (hF _ _ _ (o7 hg ht hx7)) (.inl rfl) (nb rfl) ?_;cbv
    cases hb6:x7
    ·rw[aa hb6] at h_1;cbv;iterate 13 try(rw[hb6];cbv)
     obtain rfl:=Option.some.inj h_1;try dsimp only[lr,lrL,lrp,a9] at h
     obtain rfl:=Option.some.inj h;exact ARet.mk trivial hX.symm
    rw[ab hb6] at h_1;cbv;iterate 5 try(rw[hb6];cbv)
    obtain⟨x8,hx8,h_1⟩:=ac h_1;try dsimp only at h_1
    refine ACallR.mk _ _ (.c (.r (.s 1 (r_S x8)))) rfl (hF _ _ _ (si hg ht hx8)) (.inl rfl) (nb rfl) (by cbv;(try simp only[hrda_S])) ?_;cbv;iterate 4 try(rw[hb6];cbv)
    refine AStep.mk (f8 hi1) ?_;cbv;refine AGet.mk _ (kD hg ht hi1 hz1) ?_;cbv;iterate 2 try(rw[hb6];cbv)
    obtain⟨x9,hx9,h_1⟩:=ah h_1;try dsimp only at h_1
    refine ACall.mk _ _ rfl (hF _ _ _ (Ad hg ht hx9)) (.inl rfl) (nb rfl) ?_;cbv;iterate 2 try(rw[hb6];cbv)
    cases hb7:(lt x9 0)
    rotate_left
    ·rw[ab hb7] at h_1;cbv;obtain rfl:=Option.some.inj h_1;try dsimp only[lr,lrL,lrp,a9] at h
     obtain rfl:=Option.some.inj h;exact ARet.mk trivial hX.symm
    rw[aa hb7] at h_1;cbv;try rw[hg] at h_1
    try rw[ht] at h_1
    refine⟨⟨(k1+1,(wrap .i64 (add v1 1))),hc1_,hs1,h_1⟩,Wk.of [(0,some 0),(1,some 1)] rfl rfl ?_ ?_,a7 hc1_⟩
    ·cbv;all_goals exact⟨⟨_,rfl,rfl⟩,⟨_,rfl,rfl⟩,⟨_,rfl,rfl⟩,⟨_,rfl,rfl⟩,⟨_,rfl,rfl⟩,⟨_,rfl,rfl⟩,trivial⟩
    cbv;all_goals exact⟨⟨_,rfl,_,rfl,rfl,rfl,rfl,trivial⟩,⟨_,rfl,_,rfl,rfl,rfl,trivial⟩,trivial⟩
   have hb5:lt v1 (llen (r_S x3_Places))=false:=gQ hg ht hi1 hc1_;rw[List.drop_of_length_le (Nat.le_of_not_lt hc1_)] at h_1;rw[cZ] at h_1;try rw[←hg] at h_1
   try rw[←ht] at h_1
   try dsimp only at h_1
   try rw[hs_k10] at h_1
   rw[hb5];cbv;refine⟨(),Wk.of [(0,some 0),(1,some 1)] rfl rfl ?_ ?_,(Option.some.inj h_1).symm⟩
   ·cbv;all_goals exact⟨⟨_,rfl,rfl⟩,⟨_,rfl,rfl⟩,⟨_,rfl,rfl⟩,⟨_,rfl,rfl⟩,⟨_,rfl,rfl⟩,trivial⟩
   cbv;all_goals exact⟨⟨_,rfl,_,rfl,rfl,rfl,rfl,trivial⟩,⟨_,rfl,_,rfl,rfl,rfl,trivial⟩,trivial⟩
  rintro _ hy1;replace hy1:=hy1.symm;subst hy1;try dsimp only[lr,lrL,lrp,a9] at h
  cbv;obtain⟨x10,hx10,h⟩:=ac h;try dsimp only at h
  refine ACallR.mk _ _ (.c (.r (.s 1 (r_S x10)))) rfl (hF _ _ _ (si hg ht hx10)) (.inl rfl) (nb rfl) (by cbv;(try simp only[hrda_S])) ?_;cbv;obtain rfl:=Option.some.inj h;exact ARet.mk trivial hX.symm
 rw[aa hb2] at h;have hK_:=h;subst hb2;have h:=hK_;clear hK_;cbv;iterate 3 try(rw[hb2];cbv)
 obtain⟨x11,hx11,h⟩:=ah h;try dsimp only at h
 refine ACall.mk _ _ rfl (hF _ _ _ (sJ hg ht hx11)) (.inl rfl) (nb rfl) ?_;cbv
 cases hb8:(eq x11 0)
 ·rw[aa hb8] at h;cbv;iterate 3 try(rw[hb8];cbv)
  obtain rfl:=Option.some.inj h;exact ARet.mk trivial hX.symm
 rw[ab hb8] at h;cbv;try(rw[hb8];cbv)
 obtain⟨x12,hx12,h⟩:=ac h;try dsimp only at h
 refine ACall.mk _ _ rfl (hF _ _ _ (jJ hg ht hx12)) (.inl rfl) (nb rfl) ?_;cbv;iterate 2 try(rw[hb8];cbv)
 obtain rfl:=Option.some.inj h;exact ARet.mk trivial hX.symm
end Go.Vs
