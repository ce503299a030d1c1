/- Part of the proofs of this seat's laws: Lad. No condition. -/
import Derived.Test.YtilplaaijbpilaaGreatTy
import Derived.Test.YtilplaaijbpilaaGreatTIRall
import Derived.Test.YtilplaaijbpilaaGreatLac
set_option linter.unusedVariables false
set_option linter.unusedSimpArgs false
set_option linter.unusedSectionVars false
namespace Go.Vs
set_option maxRecDepth 100000
def ir27:J:=js [jq 3 (.box 0),jq 6 (.mv (.k (.c (.n 6))))] [1,2,3] (js [jq 10 (.bsl 6 []),jm 7 10] [1,2,3,7] (.seq (js [jl 11 3 3,jm 12 1,jc 13 20 [11,12],jq 14 (.len false 13),jm 15 (ki 0)] [2,7,13,14,15] (.bl 0 (js [jb 16 .lss .i 15 14] [2,7,13,14,15,16] (.seq (.cond 16 .skip (.exit 0)) (.seq (.block 1 (js [ja 17 6 13 15,jl 18 6 17,jq 9 (.alloc [.r (.v (.int .i64 0)),.r (.v (.int .i64 0)),.r (.v (.int .i64 0)),.r (.v (.string .empty)),.r (.v (.int .i64 0)),.r (.v (.int .i64 0))]),jp (.st 6 9 18)] [2,7,9,13,14,15] (js [jf 19 0 9,jk 20 19,jm 21 2,jb 22 .eql .i 20 21] [2,7,9,13,14,15,22] (.cond 22 (.reg none [jm 23 7,jl 24 6 9,jq 25 (.bsl 6 [24]),jq 26 (.app 6 56 true 23 25),jm 7 26] [2,7,13,14,15]) .skip)))) (.reg none [jb 27 .add .i 15 (ki 1),jm 15 27] [2,7,13,14,15])))))) (js [jm 28 7,jm 6 28] [6] .ret)))
def rv27:List RV:=[.t 6]
open Go.Proofs Go.IntWalk
set_option linter.unusedVariables false
set_option maxHeartbeats 4000000
def bQ (g:G) (t:TE) (a2:Int) (x1:List Scan):Nat→Int→List Scan→Option (List Scan)
 |0,v1,w1=>
  some w1
 |n1+1,v1,w1=>
  gt x1 (g.nat v1) fun x2=>
  br (g.eq x2.Thing a2)
  (
   lP ([(Scan.mk x2.Thing x2.At x2.Kind x2.Place (Trip.mk x2.Trip.Leg x2.Trip.Day))]) fun(l2:List Scan)=>
   gd (((w1.length+l2.length)*56≤70368744177664))<|
   lP (w1++l2) fun(l3:List Scan)=>
   bQ g t a2 x1 n1 (g.wrap .i64 (g.add v1 1)) l3)
  (
   bQ g t a2 x1 n1 (g.wrap .i64 (g.add v1 1)) w1)
def jw (g:G) (t:TE) (a0:Network) (a1:List Scan) (a2:Int):Option (List Scan):=
 lP ([]) fun(l1:List Scan)=>
 cl (iK g t a0 a1) fun x1=>
 gd (((g.int (g.dlen (t.d_Scan x1)))≤9223372036854775807))<|
 cl (bQ g t a2 x1 (aq 0 (g.int (g.dlen (t.d_Scan x1)))) 0 l1) fun y1=>
 some y1
theorem xA {g:G} {t:TE} {a0:Network} {a1:List Scan} {a2:Int} {r:List Scan} (hg:g=G.real) (ht:t=TE.real) (h:jw g t a0 a1 a2=some r):Fn Tryz.prog 27 [.g (Network.rs t a0),.c (.s 6 (t.r_Scan a1)),.c (.v (.int .i64 a2))] (.c (.o 6 (t.d_Scan r))):=by
 obtain⟨X,hX⟩:=aE (.c (.o 6 (t.d_Scan r)):X);rw[←hX];refine au (rvs:=rv27) (j:=ir27) Tryz.func27 rfl (by kernel_rfl) (nb rfl) (by kernel_rfl) ae ?_;intro g2 F hg2 hF;obtain rfl:g2=g:=hg2.unique.trans hg.symm;clear hg2;obtain⟨wrap,lt,_,eq,_,_,_,_,_,_,_,_,int,add,_,_,_,_,_,_,_,_,_,_,dlen⟩:=g2;obtain⟨_,_,_,_,_,d_Scan⟩:=t
 obtain⟨a0_Legs,a0_Off,a0_Change⟩:=a0;unfold jw at h;try dsimp only at h
 cbv;obtain⟨l1,hl1,h⟩:=ak h;try dsimp only at h
 refine ANew.mk (d_Scan l1) (dlen (d_Scan l1)) (by rw[←hl1];exact bX hg ht []) (by rw[←hl1];exact bn hg ht []) ?_;cbv;obtain⟨x1,hx1,h⟩:=ac h;try dsimp only at h
 refine ACall.mk _ _ rfl (hF _ _ _ (tg hg ht hx1)) (.inl rfl) (nb rfl) ?_;cbv;obtain⟨hB1,h⟩:=ah h;obtain⟨o1,ho1,h⟩:=ac h;try dsimp only at h
 try rw[hg] at ho1
 try rw[ht] at ho1
 refine ABL.mk {p:Nat×Int×List Scan//p.1=aq p.2.1 (int (dlen (d_Scan x1)))∧0≤p.2.1∧bQ G.real TE.real a2 x1 p.1 p.2.1 p.2.2=some o1} (fun⟨⟨n1,v1,w1⟩,_⟩=>({sl:=[(2,.c (.r (.v (.int .i64 a2)))),(7,.c (.f 0 6 0 (dlen (d_Scan w1)))),(13,.c (.f 1 6 0 (dlen (d_Scan x1)))),(14,.c (.r (.v (.int .i64 (int (dlen (d_Scan x1))))))),(15,.c (.r (.v (.int .i64 v1))))],tab:=[(0,some (.arr 6 (d_Scan w1))),(1,some (.arr 6 (d_Scan x1)))]}:St)) 2 (fun p=>p.1.1) ⟨(aq 0 (int (dlen (d_Scan x1))),0,l1),rfl,Int.le_refl _,ho1⟩ (List Scan) (fun y1=>({sl:=[(7,.c (.f 0 6 0 (dlen (d_Scan y1))))],tab:=[(0,some (.arr 6 (d_Scan y1)))]}:St)) 1 (fun y=>o1=y) ?_ ?_ ?_
 ·refine Wk.of [(0,some 32),(1,some 96)] rfl rfl ?_ ?_
  ·cbv;all_goals exact⟨⟨_,rfl,rfl⟩,⟨_,rfl,rfl⟩,⟨_,rfl,rfl⟩,⟨_,rfl,rfl⟩,⟨_,rfl,rfl⟩,trivial⟩
  cbv;all_goals exact⟨⟨_,rfl,rfl⟩,⟨_,rfl,rfl⟩,trivial⟩
 ·rintro⟨⟨n1,v1,w1⟩,hn1,hi1,h_1⟩ hq1;try dsimp only at hn1 hi1 h_1
  clear hq1;cbv;rcases n1 with _|n1
  ·have hb1:lt v1 (int (dlen (d_Scan x1)))=false:=be hg hn1;rw[bQ] at h_1;try rw[←hg] at h_1
   try rw[←ht] at h_1
   try dsimp only at h_1
   rw[hb1];cbv;refine⟨w1,Wk.of [(0,some 0)] rfl rfl ?_ ?_,(Option.some.inj h_1).symm⟩
   ·cbv;all_goals exact⟨⟨_,rfl,rfl⟩,trivial⟩
   cbv;all_goals exact⟨⟨_,rfl,rfl⟩,trivial⟩
  have hb1:lt v1 (int (dlen (d_Scan x1)))=true:=bF hg hn1;have hl1:=dM hn1;have hs1:=cF hg hn1 hi1 hB1 (by decide);rw[bQ] at h_1;try rw[←hg] at h_1
  try rw[←ht] at h_1
  try dsimp only at h_1
  rw[hb1];cbv;refine AStep.mk (dB hg hi1 hl1) ?_;cbv;obtain⟨x2,hx2,h_1⟩:=aB h_1;obtain⟨x2_Thing,x2_At,x2_Kind,x2_Place,⟨x2_Trip_Leg,x2_Trip_Day⟩⟩:=x2;try dsimp only at h_1
  refine AGet.mk _ (aG hg ht hx2) ?_;cbv
  cases hb2:(eq x2_Thing a2)
  ·rw[aa hb2] at h_1;cbv;try rw[hg] at h_1
   try rw[ht] at h_1
   refine⟨⟨(n1,(wrap .i64 (add v1 1)),w1),hs1.1,hs1.2,h_1⟩,Wk.of [(0,some 0),(1,some 1)] rfl rfl ?_ ?_,Nat.lt_succ_self _⟩
   ·cbv;all_goals exact⟨⟨_,rfl,rfl⟩,⟨_,rfl,rfl⟩,⟨_,rfl,rfl⟩,⟨_,rfl,rfl⟩,⟨_,rfl,rfl⟩,trivial⟩
   cbv;all_goals exact⟨⟨_,rfl,rfl⟩,⟨_,rfl,rfl⟩,trivial⟩
  rw[ab hb2] at h_1;cbv;obtain⟨l2,hl2,h_1⟩:=ak h_1;try dsimp only at h_1
  refine ANew.mk (d_Scan l2) (dlen (d_Scan l2)) (by rw[←hl2];exact bX hg ht [(Scan.mk x2_Thing x2_At x2_Kind x2_Place (Trip.mk x2_Trip_Leg x2_Trip_Day))]) (by rw[←hl2];exact bn hg ht [(Scan.mk x2_Thing x2_At x2_Kind x2_Place (Trip.mk x2_Trip_Leg x2_Trip_Day))]) ?_;cbv;obtain⟨hc1,h_1⟩:=ah h_1;refine AStep.mk ⟨⟨rfl,(aj hg ht _)⟩,(bq hg ht (aj hg ht _) rfl hc1)⟩ ?_;cbv;obtain⟨l3,hl3,h_1⟩:=ak h_1;try dsimp only at h_1
  refine ANew.mk (d_Scan l3) (dlen (d_Scan l3)) (by rw[←hl3];exact dF hg ht (aj hg ht _) rfl) (by rw[←hl3];exact cG hg ht (aj hg ht _) rfl) ?_;cbv;try rw[hg] at h_1
  try rw[ht] at h_1
  refine⟨⟨(n1,(wrap .i64 (add v1 1)),l3),hs1.1,hs1.2,h_1⟩,Wk.of [(0,some 194),(1,some 1)] rfl rfl ?_ ?_,Nat.lt_succ_self _⟩
  ·cbv;all_goals exact⟨⟨_,rfl,rfl⟩,⟨_,rfl,rfl⟩,⟨_,rfl,rfl⟩,⟨_,rfl,rfl⟩,⟨_,rfl,rfl⟩,trivial⟩
  cbv;all_goals exact⟨⟨_,rfl,rfl⟩,⟨_,rfl,rfl⟩,trivial⟩
 rintro y1 hy1;replace hy1:=hy1.symm;subst hy1;try dsimp only[lr,lrL,lrp,aP] at h
 cbv;obtain rfl:=Option.some.inj h;exact ARet.mk ⟨rfl,(aj hg ht _)⟩ hX.symm
def GH (s_k0:ByteArray):J:=js [jq 2 (.box 0),jq 3 (.box 1),jq 4 (.mv (.k (.c (.r (.v (.string s_k0))))))] [2,3] (.seq (js [jl 5 3 2,jl 6 6 3,jc 7 67 [5,6],jq 8 (.not 7)] [2,3,8] (.cond 8 (js [jq 4 (.mv (.k (.c (.r (.v (.string s_k0))))))] [4] .ret) .skip)) (.seq (js [jf 9 2 3,jk 10 9] [2,3,10] (.block 0 (js [jb 12 .eql .i 10 (ki 3),jm 11 12] [2,3,10,11] (.cond 11 (js [jf 13 0 2,jk 14 13,jf 15 4 3,jf 16 0 15,jk 17 16,ja 18 6 14 17,jf 19 0 18,jk 20 19,jm 4 20] [4] .ret) (js [jb 22 .eql .i 10 (ki 2),jm 21 22] [2,3,21] (.cond 21 (js [jf 23 0 2,jk 24 23,jf 25 4 3,jf 26 0 25,jk 27 26,ja 28 6 24 27,jf 29 1 28,jk 30 29,jm 4 30] [4] .ret) .skip)))))) (js [jf 31 3 3,jk 32 31,jm 4 32] [4] .ret)))
def HG:List RV:=[.t 4]
def kS (g:G) (t:TE) (a0:Network) (a1:Scan):Option ByteArray:=
 cl (gf g t a0 (Scan.mk a1.Thing a1.At a1.Kind a1.Place (Trip.mk a1.Trip.Leg a1.Trip.Day))) fun x1=>
 br x1
 (
  br (g.eq a1.Kind 3)
  (
   gd (((0:Int)≤a1.Trip.Leg))<|
   gt a0.Legs (g.nat a1.Trip.Leg) fun x2=>
   some x2.From)
  (
   br (g.eq a1.Kind 2)
   (
    gd (((0:Int)≤a1.Trip.Leg))<|
    gt a0.Legs (g.nat a1.Trip.Leg) fun x3=>
    some x3.To)
   (
    some a1.Place)))
 (
  some str_k0)
theorem wZ {g:G} {t:TE} {a0:Network} {a1:Scan} {r:ByteArray} (hg:g=G.real) (ht:t=TE.real) (h:kS g t a0 a1=some r):Fn Tryz.prog 121 [.g (Network.rs t a0),.g (Scan.rs t a1)] (.c (.r (.v (.string r)))):=by
 obtain⟨X,hX⟩:=aE (.c (.r (.v (.string r))):X);rw[←hX];refine au (rvs:=HG) (j:=(GH str_k0)) Tryz.func121 rfl (by kernel_rfl) (nb rfl) (by kernel_rfl) ae ?_;intro g2 F hg2 hF;obtain rfl:g2=g:=hg2.unique.trans hg.symm;clear hg2;obtain⟨_,_,_,eq⟩:=g2;obtain⟨_⟩:=t
 obtain⟨a0_Legs,a0_Off,a0_Change⟩:=a0;obtain⟨a1_Thing,a1_At,a1_Kind,a1_Place,⟨a1_Trip_Leg,a1_Trip_Day⟩⟩:=a1;unfold kS at h;try dsimp only at h
 obtain⟨s_k0,hs_k0⟩:∃s,str_k0=s:=⟨_,rfl⟩;try rw[hs_k0] at h
 rw[hs_k0];cbv;obtain⟨x1,hx1,h⟩:=ac h;try dsimp only at h
 refine ACall.mk _ _ rfl (hF _ _ _ (hO hg ht hx1)) (.inl rfl) (nb rfl) ?_;cbv
 cases hb1:x1
 ·rw[aa hb1] at h;cbv;obtain rfl:=Option.some.inj h;exact ARet.mk trivial hX.symm
 rw[ab hb1] at h;cbv
 cases hb2:(eq a1_Kind 3)
 rotate_left
 ·rw[ab hb2] at h;cbv;obtain⟨hc1,h⟩:=ah h;refine AStep.mk hc1 ?_;cbv;obtain⟨x2,hx2,h⟩:=aB h;obtain⟨x2_From,x2_To,x2_Start,x2_Takes,x2_Days,x2_Room⟩:=x2;try dsimp only at h
  refine AGet.mk _ (ax hg ht hx2) ?_;cbv;obtain rfl:=Option.some.inj h;exact ARet.mk trivial hX.symm
 rw[aa hb2] at h;cbv
 cases hb3:(eq a1_Kind 2)
 ·rw[aa hb3] at h;cbv;obtain rfl:=Option.some.inj h;exact ARet.mk trivial hX.symm
 rw[ab hb3] at h;cbv;obtain⟨hc2,h⟩:=ah h;refine AStep.mk hc2 ?_;cbv;obtain⟨x3,hx3,h⟩:=aB h;obtain⟨x3_From,x3_To,x3_Start,x3_Takes,x3_Days,x3_Room⟩:=x3;try dsimp only at h
 refine AGet.mk _ (ax hg ht hx3) ?_;cbv;obtain rfl:=Option.some.inj h;exact ARet.mk trivial hX.symm
def ir83:J:=js [jq 2 (.box 0),jq 3 (.box 1),jq 4 (.alloc [.r (.v (.string .empty)),.r (.v (.int .i64 0))])] [2,3,4] (.seq (js [jl 5 3 2,jl 6 6 3,jc 7 67 [5,6],jq 8 (.not 7)] [2,3,4,8] (.cond 8 (js [jq 9 (.bld [.r (.v (.string .empty)),.r (.v (.int .i64 0))] []),jp (.st 2 4 9)] [4] .ret) .skip)) (.seq (js [jf 10 2 3,jk 11 10,jb 12 .eql .i 11 (ki 3)] [2,3,4,12] (.cond 12 (.seq (.reg (some [[],[0],[],[2],[2,3],[0,1,2,3,4],[0,1,2,3,4,5],[0,1,2,3,4,5,6],[],[],[9],[8,9,10],[0,1,2,3,4,5,6,7,8,9,10,11],[0,1,2,3,4,5,6,7,8,9,10,11,12]]) [jf 13 0 2,jk 14 13,jf 15 4 3,jf 16 0 15,jk 17 16,ja 18 6 14 17,jf 19 1 18,jk 20 19,jl 21 3 2,jf 22 4 3,jl 23 2 22,jc 24 106 [21,23],jq 25 (.bld [.r (.v (.string .empty)),.r (.v (.int .i64 0))] [(0,1,20),(1,1,24)]),jp (.st 2 4 25)] [4]) .ret) .skip)) (.seq (.reg (some [[],[],[0,1],[],[3],[0,1,2,3,4],[0,1,2,3,4,5]]) [jl 26 3 2,jl 27 6 3,jc 28 121 [26,27],jf 29 1 3,jk 30 29,jq 31 (.bld [.r (.v (.string .empty)),.r (.v (.int .i64 0))] [(0,1,28),(1,1,30)]),jp (.st 2 4 31)] [4]) .ret)))
def rv83:List RV:=[.c 4 true 2]
def bE (g:G) (t:TE) (a0:Network) (a1:Scan):Option Spot:=
 cl (gf g t a0 (Scan.mk a1.Thing a1.At a1.Kind a1.Place (Trip.mk a1.Trip.Leg a1.Trip.Day))) fun x1=>
 br x1
 (
  br (g.eq a1.Kind 3)
  (
   gd (((0:Int)≤a1.Trip.Leg))<|
   gt a0.Legs (g.nat a1.Trip.Leg) fun x2=>
   cl (f9 g t a0 (Trip.mk a1.Trip.Leg a1.Trip.Day)) fun x3=>
   some (Spot.mk x2.To x3))
  (
   cl (kS g t a0 (Scan.mk a1.Thing a1.At a1.Kind a1.Place (Trip.mk a1.Trip.Leg a1.Trip.Day))) fun x4=>
   some (Spot.mk x4 a1.At)))
 (
  some (Spot.mk ByteArray.empty 0))
theorem cv {g:G} {t:TE} {a0:Network} {a1:Scan} {r:Spot} (hg:g=G.real) (ht:t=TE.real) (h:bE g t a0 a1=some r):Fn Tryz.prog 83 [.g (Network.rs t a0),.g (Scan.rs t a1)] (.g (Spot.ds t r)):=by
 obtain⟨X,hX⟩:=aE (.g (Spot.ds t r):X);rw[←hX];refine au (rvs:=rv83) (j:=ir83) Tryz.func83 rfl (by kernel_rfl) (nb rfl) (by kernel_rfl) ae ?_;intro g2 F hg2 hF;obtain rfl:g2=g:=hg2.unique.trans hg.symm;clear hg2;obtain⟨_,_,_,eq⟩:=g2;obtain⟨_⟩:=t
 obtain⟨a0_Legs,a0_Off,a0_Change⟩:=a0;obtain⟨a1_Thing,a1_At,a1_Kind,a1_Place,⟨a1_Trip_Leg,a1_Trip_Day⟩⟩:=a1;unfold bE at h;try dsimp only at h
 cbv;obtain⟨x1,hx1,h⟩:=ac h;try dsimp only at h
 refine ACall.mk _ _ rfl (hF _ _ _ (hO hg ht hx1)) (.inl rfl) (nb rfl) ?_;cbv
 cases hb1:x1
 ·rw[aa hb1] at h;cbv;obtain rfl:=Option.some.inj h;exact ARet.mk trivial hX.symm
 rw[ab hb1] at h;cbv
 cases hb2:(eq a1_Kind 3)
 ·rw[aa hb2] at h;cbv;obtain⟨x4,hx4,h⟩:=ac h;try dsimp only at h
  refine ACall.mk _ _ rfl (hF _ _ _ (wZ hg ht hx4)) (.inl rfl) (nb rfl) ?_;cbv;obtain rfl:=Option.some.inj h;exact ARet.mk trivial hX.symm
 rw[ab hb2] at h;cbv;obtain⟨hc1,h⟩:=ah h;refine AStep.mk hc1 ?_;cbv;obtain⟨x2,hx2,h⟩:=aB h;obtain⟨x2_From,x2_To,x2_Start,x2_Takes,x2_Days,x2_Room⟩:=x2;try dsimp only at h
 refine AGet.mk _ (ax hg ht hx2) ?_;cbv;obtain⟨x3,hx3,h⟩:=ac h;try dsimp only at h
 refine ACall.mk _ _ rfl (hF _ _ _ (fE hg ht hx3)) (.inl rfl) (nb rfl) ?_;cbv;obtain rfl:=Option.some.inj h;exact ARet.mk trivial hX.symm
def GO:J:=js [jq 3 (.box 0),jm 6 (ki 0)] [1,2,3] (.seq (js [jm 7 2] [1,3,7] (.cond 7 (js [jm 8 1,jm 6 8] [6] .ret) .skip)) (js [jm 9 1,jf 10 2 3,jk 11 10,jb 12 .add .i 9 11,jm 6 12] [6] .ret))
def Hh:List RV:=[.t 6]
def kU (g:G) (t:TE) (a0:Network) (a1:Int) (a2:Bool):Int:=
 br a2
 (
  a1)
 (
  (g.wrap .i64 (g.add a1 a0.Change)))
theorem xq {g:G} {t:TE} {a0:Network} {a1:Int} {a2:Bool} {r:Int} (hg:g=G.real) (ht:t=TE.real) (h:kU g t a0 a1 a2=r):Fn Tryz.prog 171 [.g (Network.rs t a0),.c (.v (.int .i64 a1)),.c (.v (.bool a2))] (.c (.r (.v (.int .i64 r)))):=by
 obtain⟨X,hX⟩:=aE (.c (.r (.v (.int .i64 r))):X);rw[←hX];refine au (rvs:=Hh) (j:=GO) Tryz.func171 rfl (by kernel_rfl) (nb rfl) (by kernel_rfl) ae ?_;intro g2 F hg2 hF;obtain rfl:g2=g:=hg2.unique.trans hg.symm;clear hg2;obtain⟨_⟩:=g2;obtain⟨_⟩:=t
 obtain⟨a0_Legs,a0_Off,a0_Change⟩:=a0;unfold kU at h;try dsimp only at h
 cbv
 cases hb1:a2
 rotate_left
 ·rw[ab hb1] at h;cbv;subst h;exact ARet.mk trivial hX.symm
 rw[aa hb1] at h;cbv;subst h;exact ARet.mk trivial hX.symm
def Hs:J:=js [jq 3 (.box 0),jq 6 (.alloc [.r (.v (.int .i64 0)),.r (.v (.int .i64 0))]),jm 7 kf] [1,2,3,6] (.seq (js [jm 8 (ki 0)] [1,2,3,6,8] (.bl 0 (.seq (js [jm 10 8,jb 11 .leq .i 10 (ki 60)] [1,2,3,6,8,11] (.cond 11 .skip (.exit 0))) (.seq (.block 1 (js [jm 14 1,jm 15 8,jq 16 (.bld [.r (.v (.int .i64 0)),.r (.v (.int .i64 0))] [(0,1,14),(1,1,15)]),jq 9 (.alloc [.r (.v (.int .i64 0)),.r (.v (.int .i64 0))]),jp (.st 2 9 16)] [1,2,3,6,8,9] (js [jl 17 3 3,jm 18 1,jm 19 8,jc 20 94 [17,18,19],jm 21 20,ju 22 21 (.ld true 3 3),ju 23 21 (.ld true 2 9),ju 24 21 (.call 105 true [22,23]),ju 25 21 (.mv 2),ju 26 21 (.bin .geq .i 24 25),jq 27 (.pick 21 26 kf)] [1,2,3,6,8,9,27] (.cond 27 (js [jl 28 2 9,jp (.st 2 6 28),jm 7 kt] [6,7] .ret) .skip)))) (.reg none [jm 12 8,jb 13 .add .i 12 (ki 1),jm 8 13] [1,2,3,6,8]))))) (js [jq 29 (.bld [.r (.v (.int .i64 0)),.r (.v (.int .i64 0))] []),jp (.st 2 6 29),jm 7 kf] [6,7] .ret))
def Gn:List RV:=[.c 6 true 2,.t 7]
def fS (g:G) (t:TE) (a0:Network) (a1:Int) (a2:Int):Nat→Int→Option (LR (Trip×Bool) Unit)
 |0,v1=>
  some (LR.out ())
 |n1+1,v1=>
  cl (lW g t a0 a1 v1) fun x1=>
  br x1
  (
   cl (da g t a0 (Trip.mk a1 v1)) fun x2=>
   br (g.le a2 x2)
   (
    some (LR.ret (((Trip.mk a1 v1),true))))
   (
    fS g t a0 a1 a2 n1 (g.wrap .i64 (g.add v1 1))))
  (
   fS g t a0 a1 a2 n1 (g.wrap .i64 (g.add v1 1)))
def sE (g:G) (t:TE) (a0:Network) (a1:Int) (a2:Int):Option (Trip×Bool):=
 cl (fS g t a0 a1 a2 (e9 0 60) 0) fun o1=>lr o1 fun y1=>
 some (((Trip.mk 0 0),false))
theorem Dn {g:G} {t:TE} {a0:Network} {a1:Int} {a2:Int} {r:Trip×Bool} (hg:g=G.real) (ht:t=TE.real) (h:sE g t a0 a1 a2=some r):Fn Tryz.prog 173 [.g (Network.rs t a0),.c (.v (.int .i64 a1)),.c (.v (.int .i64 a2))] (.u [.g (Trip.ds t r.1),.c (.r (.v (.bool r.2)))]):=by
 obtain⟨X,hX⟩:=aE (.u [.g (Trip.ds t r.1),.c (.r (.v (.bool r.2)))]:X);rw[←hX];refine au (rvs:=Gn) (j:=Hs) Tryz.func173 rfl (by kernel_rfl) (nb rfl) (by kernel_rfl) ae ?_;intro g2 F hg2 hF;obtain rfl:g2=g:=hg2.unique.trans hg.symm;clear hg2;obtain⟨wrap,_,le,_,_,_,_,_,_,_,_,_,_,add⟩:=g2;obtain⟨r_Leg,_,r_I64⟩:=t
 obtain⟨a0_Legs,a0_Off,a0_Change⟩:=a0;unfold sE at h;try dsimp only at h
 cbv;obtain⟨o1,ho1,h⟩:=ac h;try dsimp only at h
 try rw[hg] at ho1
 try rw[ht] at ho1
 refine ABL.mk {p:Nat×Int//p.1=e9 p.2 60∧0≤p.2∧fS G.real TE.real (Network.mk a0_Legs a0_Off a0_Change) a1 a2 p.1 p.2=some o1} (fun⟨⟨n1,v1⟩,_⟩=>({sl:=[(1,.c (.r (.v (.int .i64 a1)))),(2,.c (.r (.v (.int .i64 a2)))),(3,.c (.p 0 3 0 0)),(6,.c (.p 1 2 0 0)),(8,.c (.r (.v (.int .i64 v1))))],tab:=[(0,some (.foc 3 [] [.r (.s 6 (r_Leg a0_Legs)),.r (.s 1 (r_I64 a0_Off)),.r (.v (.int .i64 a0_Change))] [])),(1,some (.foc 2 [] [.r (.v (.int .i64 0)),.r (.v (.int .i64 0))] []))]}:St)) 2 (fun p=>p.1.1) ⟨(e9 0 60,0),rfl,Int.le_refl _,ho1⟩ (Unit) (fun _=>({sl:=[(6,.c (.p 0 2 0 0))],tab:=[(0,some (.foc 2 [] [.r (.v (.int .i64 0)),.r (.v (.int .i64 0))] []))]}:St)) 1 (fun y=>o1=LR.out y) ?_ ?_ ?_
 ·refine Wk.of [(0,some 0),(1,some 16)] rfl rfl ?_ ?_
  ·cbv;all_goals exact⟨⟨_,rfl,rfl⟩,⟨_,rfl,rfl⟩,⟨_,rfl,rfl⟩,⟨_,rfl,rfl⟩,⟨_,rfl,rfl⟩,trivial⟩
  cbv;all_goals exact⟨⟨_,rfl,_,rfl,rfl,rfl,rfl,trivial⟩,⟨_,rfl,_,rfl,rfl,rfl,trivial⟩,trivial⟩
 ·rintro⟨⟨n1,v1⟩,hn1,hi1,h_1⟩ hq1;try dsimp only at hn1 hi1 h_1
  clear hq1;cbv;rcases n1 with _|n1
  ·have hb1:le v1 60=false:=mU hg hn1;rw[fS] at h_1;try rw[←hg] at h_1
   try rw[←ht] at h_1
   try dsimp only at h_1
   rw[hb1];cbv;refine⟨(),Wk.of [(0,some 1)] rfl rfl ?_ ?_,(Option.some.inj h_1).symm⟩
   ·cbv;all_goals exact⟨⟨_,rfl,rfl⟩,trivial⟩
   cbv;all_goals exact⟨⟨_,rfl,_,rfl,rfl,rfl,trivial⟩,trivial⟩
  have hb1:le v1 60=true:=oH hg hn1;have hl1:=uV hn1;have hs1:=qR hg hn1 hi1 (by decide) (by decide);rw[fS] at h_1;try rw[←hg] at h_1
  try rw[←ht] at h_1
  try dsimp only at h_1
  rw[hb1];cbv;obtain⟨x1,hx1,h_1⟩:=ac h_1;try dsimp only at h_1
  refine ACall.mk _ _ rfl (hF _ _ _ (rf hg ht hx1)) (.inl rfl) (nb rfl) ?_;cbv
  cases hb2:x1
  ·rw[aa hb2] at h_1;cbv;iterate 5 try(rw[hb2];cbv)
   try rw[hg] at h_1
   try rw[ht] at h_1
   refine⟨⟨(n1,(wrap .i64 (add v1 1))),hs1.1,hs1.2,h_1⟩,Wk.of [(0,some 0),(1,some 1)] rfl rfl ?_ ?_,Nat.lt_succ_self _⟩
   ·cbv;all_goals exact⟨⟨_,rfl,rfl⟩,⟨_,rfl,rfl⟩,⟨_,rfl,rfl⟩,⟨_,rfl,rfl⟩,⟨_,rfl,rfl⟩,trivial⟩
   cbv;all_goals exact⟨⟨_,rfl,_,rfl,rfl,rfl,rfl,trivial⟩,⟨_,rfl,_,rfl,rfl,rfl,trivial⟩,trivial⟩
  rw[ab hb2] at h_1;cbv;iterate 2 try(rw[hb2];cbv)
  obtain⟨x2,hx2,h_1⟩:=ac h_1;try dsimp only at h_1
  refine ACall.mk _ _ rfl (hF _ _ _ (dJ hg ht hx2)) (.inl rfl) (nb rfl) ?_;cbv;iterate 3 try(rw[hb2];cbv)
  cases hb3:(le a2 x2)
  rotate_left
  ·rw[ab hb3] at h_1;cbv;obtain rfl:=Option.some.inj h_1;try dsimp only[lr,lrL,lrp,aP] at h
   obtain rfl:=Option.some.inj h;exact ARet.mk trivial hX.symm
  rw[aa hb3] at h_1;cbv;try rw[hg] at h_1
  try rw[ht] at h_1
  refine⟨⟨(n1,(wrap .i64 (add v1 1))),hs1.1,hs1.2,h_1⟩,Wk.of [(0,some 0),(1,some 1)] rfl rfl ?_ ?_,Nat.lt_succ_self _⟩
  ·cbv;all_goals exact⟨⟨_,rfl,rfl⟩,⟨_,rfl,rfl⟩,⟨_,rfl,rfl⟩,⟨_,rfl,rfl⟩,⟨_,rfl,rfl⟩,trivial⟩
  cbv;all_goals exact⟨⟨_,rfl,_,rfl,rfl,rfl,rfl,trivial⟩,⟨_,rfl,_,rfl,rfl,rfl,trivial⟩,trivial⟩
 rintro _ hy1;replace hy1:=hy1.symm;subst hy1;try dsimp only[lr,lrL,lrp,aP] at h
 cbv;obtain rfl:=Option.some.inj h;exact ARet.mk trivial hX.symm
def H8:J:=js [jq 5 (.alloc [.r (.v (.int .i64 0)),.r (.v (.int .i64 0))]),jm 6 kf] [0,1,2,5] (js [jl 10 3 2,jm 11 0,jm 12 1,jc 13 173 [10,11,12],jm 9 13,jq 14 (.ext 0 9),jq 15 (.ext 1 9),jq 7 (.alloc [.r (.v (.int .i64 0)),.r (.v (.int .i64 0))]),jp (.st 2 7 14),jm 8 15] [5,7,8] (js [jl 16 2 7,jm 17 8,jp (.st 2 5 16),jm 6 17] [5,6] .ret))
def Hq:List RV:=[.c 5 true 2,.t 6]
def I_nextOf_1 (g:G) (t:TE) (a0:Int) (a1:Int) (a2:Network):Option (Trip×Bool):=
 cl (sE g t a2 a0 a1) fun x1=>
 some (((Trip.mk x1.1.Leg x1.1.Day),x1.2))
theorem vl {g:G} {t:TE} {a0:Int} {a1:Int} {a2:Network} {r:Trip×Bool} (hg:g=G.real) (ht:t=TE.real) (h:I_nextOf_1 g t a0 a1 a2=some r):Fn Tryz.prog 172 [.c (.v (.int .i64 a0)),.c (.v (.int .i64 a1)),.q (Network.rs t a2)] (.u [.g (Trip.ds t r.1),.c (.r (.v (.bool r.2)))]):=by
 obtain⟨X,hX⟩:=aE (.u [.g (Trip.ds t r.1),.c (.r (.v (.bool r.2)))]:X);rw[←hX];refine au (rvs:=Hq) (j:=H8) Tryz.func172 rfl (by kernel_rfl) (nb rfl) (by kernel_rfl) ae ?_;intro g2 F hg2 hF;obtain rfl:g2=g:=hg2.unique.trans hg.symm;clear hg2;obtain⟨_⟩:=g2;obtain⟨_⟩:=t
 obtain⟨a2_Legs,a2_Off,a2_Change⟩:=a2;unfold I_nextOf_1 at h;try dsimp only at h
 cbv;obtain⟨x1,hx1,h⟩:=ac h;obtain⟨⟨x1_1_Leg,x1_1_Day⟩,x1_2⟩:=x1;try dsimp only at h
 refine ACall.mk _ _ rfl (hF _ _ _ (Dn hg ht hx1)) (.inl rfl) (nb rfl) ?_;cbv;obtain rfl:=Option.some.inj h;exact ARet.mk trivial hX.symm
def callFd (g:G) (t:TE) (f:Fd) (x0:Int) (x1:Int):Option (Trip×Bool):=match f with
 |.I_nextOf_1 a0=>I_nextOf_1 g t x0 x1 a0
theorem Cc {g:G} {t:TE} {f:Fd} {x0:Int} {x1:Int} {r:Trip×Bool} (hg:g=G.real) (ht:t=TE.real) (h:callFd g t f x0 x1=some r):∃(q:Nat) (bs:List (List R)),t.r_Fd f=.fn q bs∧(iS Tryz.prog q=true∧Fn Tryz.prog q ([.c (.v (.int .i64 x0)),.c (.v (.int .i64 x1))]++bs.map A.q) (.u [.g (Trip.ds t r.1),.c (.r (.v (.bool r.2)))])):=by
 cases f with
 |I_nextOf_1 a0=>
  exact⟨_,_,(mG ht a0).symm,by kernel_rfl,vl hg ht h⟩
def Hv:J:=js [jq 5 (.box 0),jq 10 (.mv (.k (.c (.n 1))))] [1,2,3,4,5] (js [jl 23 3 5,jc 24 82 [23],jm 11 24] [1,2,3,4,5,11] (js [jm 25 11,jm 26 2,jc 27 81 [25,26],jm 12 27] [1,3,4,5,11,12] (.seq (js [jm 28 12,jb 29 .lss .i 28 (ki 0),jm 30 29,jv 31 30 (.mv 3),jv 32 30 (.bin .gtr .i 31 (ki 100000)),jq 33 (.pick 30 kt 32),jm 34 33,jv 35 34 (.mv 4),jv 36 34 (.bin .lss .i 35 (ki 0)),jq 37 (.pick 34 kt 36)] [1,3,4,5,11,12,37] (.cond 37 (js [jq 10 (.mv (.k (.c (.n 1))))] [10] .ret) .skip)) (js [jq 38 (.bsl 1 []),jm 13 38] [1,3,4,5,11,12,13] (.seq (js [jm 39 11,jq 40 (.len false 39),jm 41 (ki 0)] [1,3,4,5,11,12,13,40,41] (.bl 0 (js [jb 42 .lss .i 41 40] [1,3,4,5,11,12,13,40,41,42] (.seq (.cond 42 .skip (.exit 0)) (.seq (.block 1 (.reg none [jm 43 13,jq 44 (.bsl 1 [(.k (V.i (-1)))]),jq 45 (.app 1 8 true 43 44),jm 13 45] [1,3,4,5,11,12,13,40,41])) (.reg none [jb 46 .add .i 41 (ki 1),jm 41 46] [1,3,4,5,11,12,13,40,41])))))) (js [jm 47 13,jm 48 12,jm 49 3,jq 50 (.mnx true 49 (ki 0)),ja 51 1 47 48,jp (.st 1 51 50)] [1,4,5,11,12,13] (.seq (js [jm 14 (ki 0)] [1,4,5,11,12,13,14] (.bl 2 (.seq (js [jm 52 14,jm 53 4,jb 54 .lss .i 52 53] [1,4,5,11,12,13,14,54] (.cond 54 .skip (.exit 2))) (.seq (.block 3 (js [jq 57 (.bsl 1 []),jm 58 13,jq 59 (.app 1 8 false 57 58),jm 15 59] [1,4,5,11,12,13,14,15] (js [jm 16 kf] [1,4,5,11,12,13,14,15,16] (.seq (js [jf 60 0 5,jk 61 60,jq 62 (.len false 61),jm 63 (ki 0)] [1,4,5,11,12,13,14,15,16,61,62,63] (.bl 4 (js [jb 64 .lss .i 63 62] [1,4,5,11,12,13,14,15,16,61,62,63,64] (.seq (.cond 64 .skip (.exit 4)) (.seq (.block 5 (js [jm 65 63,ja 66 6 61 63,jl 67 6 66,jq 18 (.alloc [.r (.v (.string .empty)),.r (.v (.string .empty)),.r (.v (.int .i64 0)),.r (.v (.int .i64 0)),.r (.v (.int .i64 0)),.r (.v (.int .i64 0))]),jm 17 65,jp (.st 6 18 67)] [1,4,5,11,12,13,14,15,16,17,18,61,62,63] (js [jm 68 11,jf 69 0 18,jk 70 69,jc 71 81 [68,70],jm 19 71] [1,4,5,11,12,13,14,15,16,17,18,19,61,62,63] (js [jm 72 11,jf 73 1 18,jk 74 73,jc 75 81 [72,74],jm 20 75] [1,4,5,11,12,13,14,15,16,17,19,20,61,62,63] (.seq (js [jm 76 13,jm 77 19,ja 78 1 76 77,jk 79 78,jb 80 .lss .i 79 (ki 0)] [1,4,5,11,12,13,14,15,16,17,19,20,61,62,63,80] (.cond 80 (.exit 5) .skip)) (.seq (.reg (some [[],[],[],[],[],[3,4],[3,4,5],[],[],[7,8],[2,3,4,5,6,7,8,9],[0,1,2,3,4,5,6,7,8,9,10],[0,1,2,3,4,5,6,7,8,9,10,11],[0,1,2,3,4,5,6,7,8,9,10,11,12],[0,1,2,3,4,5,6,7,8,9,10,11,12],[],[0,1,2,3,4,5,6,7,8,9,10,11,12,13,15],[0,1,2,3,4,5,6,7,8,9,10,11,12,13,14,15,16]]) [jm 82 1,jm 83 17,jl 84 3 5,jm 85 13,jm 86 19,ja 87 1 85 86,jk 88 87,jm 89 19,jm 90 12,jb 91 .eql .i 89 90,jc 92 171 [84,88,91],jq 93 (.callv true 82 [83,92]),jm 81 93,jq 94 (.ext 0 81),
 jq 95 (.ext 1 81),jq 21 (.alloc [.r (.v (.int .i64 0)),.r (.v (.int .i64 0))]),jp (.st 2 21 94),jm 22 95] [1,4,5,11,12,13,14,15,16,20,21,22,61,62,63]) (.seq (.reg (some [[],[0],[0,1],[0,1],[0,1,2,3],[0,1,2,3,4],[0,1,2,3,4,5],[0,1,2,3,4,5,6],[0,1,2,3,4,5,6,7],[0,1,2,3,4,5,6,7],[0,1,2,3,4,5,6,7,8,9],[0,1,2,3,4,5,6,7],[0,1,2,3,4,5,6,7],[0,1,2,3,4,5,6,7,11,12],[0,1,2,3,4,5,6,7,11,12,13],[0,1,2,3,4,5,6,7,8,9,10,11,12,13,14],[0,1,2,3,4,5,6,7,8,9,10,11,12,13,14,15],[0,1,2,3,4,5,6,7,8,9,10,11,12,13,14,15,16]]) [jm 96 22,jm 97 96,ju 98 97 (.mv 15),ju 99 97 (.mv 20),ju 100 97 (.ia 1 98 99),ju 101 97 (.ld false 1 100),ju 102 97 (.bin .lss .i 101 (ki 0)),ju 103 97 (.mv 102),jv 104 103 (.ld true 3 5),jv 105 103 (.ld true 2 21),jv 106 103 (.call 106 true [104,105]),jv 107 103 (.mv 15),jv 108 103 (.mv 20),jv 109 103 (.ia 1 107 108),jv 110 103 (.ld false 1 109),jv 111 103 (.bin .lss .i 106 110),ju 112 97 (.pick 103 kt 111),jq 113 (.pick 97 112 kf)] [1,4,5,11,12,13,14,15,16,20,21,61,62,63,113]) (.cond 113 (js [jm 114 15,jm 115 20,jl 116 3 5,jl 117 2 21,jc 118 106 [116,117],ja 119 1 114 115,jp (.st 1 119 118)] [1,4,5,11,12,13,14,15,61,62,63] (.reg none [jm 16 kt] [1,4,5,11,12,13,14,15,16,61,62,63])) .skip)))))))) (.reg none [jb 120 .add .i 63 (ki 1),jm 63 120] [1,4,5,11,12,13,14,15,16,61,62,63])))))) (js [jm 121 15,jm 13 121] [1,4,5,11,12,13,14,16] (js [jm 122 16,jq 123 (.not 122)] [1,4,5,11,12,13,14,123] (.cond 123 (.exit 2) .skip))))))) (.reg none [jm 55 14,jb 56 .add .i 55 (ki 1),jm 14 56] [1,4,5,11,12,13,14]))))) (js [jm 124 13,jm 10 124] [10] .ret))))))))
def Ie:List RV:=[.t 10]
def bx (g:G) (t:TE) (a0:Network) (a1:Fd) (w2:List Int) (x1:List ByteArray) (x2:Int):List Leg→Int→List Int→Bool→Option ((List Int)×Bool)
 |[],v4,w3,v3=>
  some (w3,v3)
 |z3::ls3,v4,w3,v3=>
  lP (dP g t x1 z3.From) fun x4=>
  lP (dP g t x1 z3.To) fun x5=>
  gd (((0:Int)≤x4∧x4<(((g.dlen (t.d_I64 w2)):Nat):Int)))<|
  gt w2 (g.nat x4) fun x6=>
  br (g.lt x6 0)
  (
   bx g t a0 a1 w2 x1 x2 ls3 (g.wrap .i64 (g.add v4 1)) w3 v3)
  (
   gd (((0:Int)≤x4∧x4<(((g.dlen (t.d_I64 w2)):Nat):Int)))<|
   lP (kU g t a0 x6 (g.eq x4 x2)) fun x7=>
   cl (callFd g t a1 v4 x7) fun x8=>
   br x8.2
   (
    gd (((0:Int)≤x5∧x5<(((g.dlen (t.d_I64 w3)):Nat):Int)))<|
    gt w3 (g.nat x5) fun x9=>
    br (g.lt x9 0)
    (
     cl (f9 g t a0 (Trip.mk x8.1.Leg x8.1.Day)) fun x10=>
     gd (((0:Int)≤x5∧x5<(((g.dlen (t.d_I64 w3)):Nat):Int)))<|
     lP (List.set w3 (g.nat x5) x10) fun(l7:List Int)=>
     bx g t a0 a1 w2 x1 x2 ls3 (g.wrap .i64 (g.add v4 1)) l7 true)
    (
     cl (f9 g t a0 (Trip.mk x8.1.Leg x8.1.Day)) fun x11=>
     gd (((0:Int)≤x5∧x5<(((g.dlen (t.d_I64 w3)):Nat):Int)))<|
     br (g.lt x11 x9)
     (
      cl (f9 g t a0 (Trip.mk x8.1.Leg x8.1.Day)) fun x12=>
      gd (((0:Int)≤x5∧x5<(((g.dlen (t.d_I64 w3)):Nat):Int)))<|
      lP (List.set w3 (g.nat x5) x12) fun(l8:List Int)=>
      bx g t a0 a1 w2 x1 x2 ls3 (g.wrap .i64 (g.add v4 1)) l8 true)
     (
      bx g t a0 a1 w2 x1 x2 ls3 (g.wrap .i64 (g.add v4 1)) w3 v3)))
   (
    bx g t a0 a1 w2 x1 x2 ls3 (g.wrap .i64 (g.add v4 1)) w3 v3))
def dv (g:G) (t:TE) (a0:Network) (a1:Fd) (x1:List ByteArray) (x2:Int):Nat→List Int→Option (List Int)
 |0,w2=>
  some w2
 |n2+1,w2=>
  lP ([]) fun(l5:List Int)=>
  gd (((l5.length+w2.length)*8≤70368744177664))<|
  lP (l5++w2) fun(l6:List Int)=>
  cl (bx g t a0 a1 w2 x1 x2 a0.Legs 0 l6 false) fun y2=>
  br y2.2
  (
   dv g t a0 a1 x1 x2 n2 y2.1)
  (
   some y2.1)
def di (g:G) (t:TE):Nat→List Int→Option (List Int)
 |0,w1=>
  some w1
 |n1+1,w1=>
  lP ([(-1)]) fun(l2:List Int)=>
  gd (((w1.length+l2.length)*8≤70368744177664))<|
  lP (w1++l2) fun(l3:List Int)=>
  di g t n1 l3
def jR (g:G) (t:TE) (a0:Network) (a1:Fd) (a2:ByteArray) (a3:Int) (a4:Int):Option (List Int):=
 cl (en g t a0) fun x1=>
 lP (dP g t x1 a2) fun x2=>
 br (g.lt x2 0)
 (
  some [])
 (
  br (g.lt 100000 a3)
  (
   some [])
  (
   br (g.lt a4 0)
   (
    some [])
   (
    lP ([]) fun(l1:List Int)=>
    gd (((g.int (g.dlen (t.d_S x1)))≤9223372036854775807))<|
    cl (di g t (aq 0 (g.int (g.dlen (t.d_S x1)))) l1) fun y1=>
    gd (((0:Int)≤x2∧x2<(((g.dlen (t.d_I64 y1)):Nat):Int)))<|
    gt y1 (g.nat x2) fun x3=>
    lP (List.set y1 (g.nat x2) (g.imax a3 0)) fun(l4:List Int)=>
    gd ((a4≤9223372036854775807))<|
    cl (dv g t a0 a1 x1 x2 (aq 0 a4) l4) fun y3=>
    some y3)))
theorem u9 {g:G} {t:TE} {a0:Network} {a1:Fd} {a2:ByteArray} {a3:Int} {a4:Int} {r:List Int} (hg:g=G.real) (ht:t=TE.real) (h:jR g t a0 a1 a2 a3 a4=some r):Fn Tryz.prog 152 [.g (Network.rs t a0),.c (t.r_Fd a1),.c (.v (.string a2)),.c (.v (.int .i64 a3)),.c (.v (.int .i64 a4))] (.c (.o 1 (t.d_I64 r))):=by
 obtain⟨X,hX⟩:=aE (.c (.o 1 (t.d_I64 r)):X);rw[←hX];refine au (rvs:=Ie) (j:=Hv) Tryz.func152 rfl (by kernel_rfl) (nb rfl) (by kernel_rfl) ae ?_;intro g2 F hg2 hF;obtain rfl:g2=g:=hg2.unique.trans hg.symm;clear hg2;obtain⟨wrap,lt,_,_,_,_,_,_,_,_,_,_,int,add,_,_,_,_,_,_,_,llen,_,_,dlen,_,_,_,rd,_,_,_,_,_,_,_,_,_,_,_,_,imax⟩:=g2;obtain⟨r_Leg,_,r_I64,d_I64,_,_,r_S,d_S,_,_,_,_,r_Fd⟩:=t
 obtain⟨a0_Legs,a0_Off,a0_Change⟩:=a0;have hnil_I64:d_I64 []=[]:=tu ht;unfold jR at h;try dsimp only at h
 cbv;obtain⟨x1,hx1,h⟩:=ac h;try dsimp only at h
 refine ACall.mk _ _ rfl (hF _ _ _ (fO hg ht hx1)) (.inl rfl) (nb rfl) ?_;cbv;refine AStep.mk (dN ht (al hg ht _)) ?_;cbv;obtain⟨x2,hx2,h⟩:=ak h;try dsimp only at h
 refine ACall.mk _ _ (by rw[show rd (d_S x1) 0 (dlen (d_S x1))=r_S x1 from f7 hg ht (al hg ht _)];try rfl) (hF _ _ _ (fF hg ht hx2)) (.inr rfl) (nb rfl) ?_
 cbv
 cases hb1:(lt x2 0)
 rotate_left
 ·rw[ab hb1] at h;cbv;iterate 2 try(rw[hb1];cbv)
  obtain rfl:=Option.some.inj h;exact ARet.mk trivial (by rw[hX];first|rfl|(simp only[Leg.ds,Network.ds,Trip.ds,Scan.ds,Belief.ds,Spot.ds,Know.ds,hnil_I64];try rfl))
 rw[aa hb1] at h;cbv;iterate 2 try(rw[hb1];cbv)
 cases hb2:(lt 100000 a3)
 rotate_left
 ·rw[ab hb2] at h;cbv;iterate 2 try(rw[hb2];cbv)
  obtain rfl:=Option.some.inj h;exact ARet.mk trivial (by rw[hX];first|rfl|(simp only[Leg.ds,Network.ds,Trip.ds,Scan.ds,Belief.ds,Spot.ds,Know.ds,hnil_I64];try rfl))
 rw[aa hb2] at h;cbv;iterate 2 try(rw[hb2];cbv)
 cases hb3:(lt a4 0)
 rotate_left
 ·rw[ab hb3] at h;cbv;obtain rfl:=Option.some.inj h;exact ARet.mk trivial (by rw[hX];first|rfl|(simp only[Leg.ds,Network.ds,Trip.ds,Scan.ds,Belief.ds,Spot.ds,Know.ds,hnil_I64];try rfl))
 rw[aa hb3] at h;cbv;obtain⟨l1,hl1,h⟩:=ak h;try dsimp only at h
 refine ANew.mk (d_I64 l1) (dlen (d_I64 l1)) (by rw[←hl1];exact fo hg ht []) (by rw[←hl1];exact dX hg ht []) ?_;cbv;obtain⟨hB1,h⟩:=ah h;obtain⟨o1,ho1,h⟩:=ac h;try dsimp only at h
 try rw[hg] at ho1
 try rw[ht] at ho1
 refine ABL.mk {p:Nat×Int×List Int//p.1=aq p.2.1 (int (dlen (d_S x1)))∧0≤p.2.1∧di G.real TE.real p.1 p.2.2=some o1} (fun⟨⟨n1,v1,w1⟩,_⟩=>({sl:=[(1,.c (.r (r_Fd a1))),(3,.c (.r (.v (.int .i64 a3)))),(4,.c (.r (.v (.int .i64 a4)))),(5,.c (.p 0 3 0 0)),(11,.c (.f 1 1 0 (dlen (d_S x1)))),(12,.c (.r (.v (.int .i64 x2)))),(13,.c (.f 2 1 0 (dlen (d_I64 w1)))),(40,.c (.r (.v (.int .i64 (int (dlen (d_S x1))))))),(41,.c (.r (.v (.int .i64 v1))))],tab:=[(0,some (.foc 3 [] [.r (.s 6 (r_Leg a0_Legs)),.r (.s 1 (r_I64 a0_Off)),.r (.v (.int .i64 a0_Change))] [])),(1,some (.arr 1 (d_S x1))),(2,some (.arr 1 (d_I64 w1)))]}:St)) 3 (fun p=>p.1.1) ⟨(aq 0 (int (dlen (d_S x1))),0,l1),rfl,Int.le_refl _,ho1⟩ (List Int) (fun y1=>({sl:=[(1,.c (.r (r_Fd a1))),(3,.c (.r (.v (.int .i64 a3)))),(4,.c (.r (.v (.int .i64 a4)))),(5,.c (.p 0 3 0 0)),(11,.c (.f 1 1 0 (dlen (d_S x1)))),(12,.c (.r (.v (.int .i64 x2)))),(13,.c (.f 2 1 0 (dlen (d_I64 y1))))],tab:=[(0,some (.foc 3 [] [.r (.s 6 (r_Leg a0_Legs)),.r (.s 1 (r_I64 a0_Off)),.r (.v (.int .i64 a0_Change))] [])),(1,some (.arr 1 (d_S x1))),(2,some (.arr 1 (d_I64 y1)))]}:St)) 3 (fun y=>o1=y) ?_ ?_ ?_
 ·refine Wk.of [(0,some 0),(1,some 48),(2,some 304)] rfl rfl ?_ ?_
  ·cbv;all_goals exact⟨⟨_,rfl,rfl⟩,⟨_,rfl,rfl⟩,⟨_,rfl,rfl⟩,⟨_,rfl,rfl⟩,⟨_,rfl,rfl⟩,⟨_,rfl,rfl⟩,⟨_,rfl,rfl⟩,⟨_,rfl,rfl⟩,⟨_,rfl,rfl⟩,trivial⟩
  cbv;all_goals exact⟨⟨_,rfl,_,rfl,rfl,rfl,rfl,trivial⟩,⟨_,rfl,rfl⟩,⟨_,rfl,rfl⟩,trivial⟩
 ·rintro⟨⟨n1,v1,w1⟩,hn1,hi1,h_1⟩ hq1;try dsimp only at hn1 hi1 h_1
  clear hq1;cbv;rcases n1 with _|n1
  ·have hb4:lt v1 (int (dlen (d_S x1)))=false:=be hg hn1;rw[di] at h_1;try rw[←hg] at h_1
   try rw[←ht] at h_1
   try dsimp only at h_1
   rw[hb4];cbv;refine⟨w1,Wk.of [(0,some 0),(1,some 1),(2,some 2)] rfl rfl ?_ ?_,(Option.some.inj h_1).symm⟩
   ·cbv;all_goals exact⟨⟨_,rfl,rfl⟩,⟨_,rfl,rfl⟩,⟨_,rfl,rfl⟩,⟨_,rfl,rfl⟩,⟨_,rfl,rfl⟩,⟨_,rfl,rfl⟩,⟨_,rfl,rfl⟩,trivial⟩
   cbv;all_goals exact⟨⟨_,rfl,_,rfl,rfl,rfl,rfl,trivial⟩,⟨_,rfl,rfl⟩,⟨_,rfl,rfl⟩,trivial⟩
  have hb4:lt v1 (int (dlen (d_S x1)))=true:=bF hg hn1;have hl1:=dM hn1;have hs1:=cF hg hn1 hi1 hB1 (by decide);rw[di] at h_1;try rw[←hg] at h_1
  try rw[←ht] at h_1
  try dsimp only at h_1
  rw[hb4];cbv;obtain⟨l2,hl2,h_1⟩:=ak h_1;try dsimp only at h_1
  refine ANew.mk (d_I64 l2) (dlen (d_I64 l2)) (by rw[←hl2];exact fo hg ht [(-1)]) (by rw[←hl2];exact dX hg ht [(-1)]) ?_;cbv;obtain⟨hc1,h_1⟩:=ah h_1;refine AStep.mk ⟨⟨rfl,(ao hg ht _)⟩,(jD hg ht (ao hg ht _) rfl hc1)⟩ ?_;cbv;obtain⟨l3,hl3,h_1⟩:=ak h_1;try dsimp only at h_1
  refine ANew.mk (d_I64 l3) (dlen (d_I64 l3)) (by rw[←hl3];exact oR hg ht (ao hg ht _) rfl) (by rw[←hl3];exact mE hg ht (ao hg ht _) rfl) ?_;cbv;try rw[hg] at h_1
  try rw[ht] at h_1
  refine⟨⟨(n1,(wrap .i64 (add v1 1)),l3),hs1.1,hs1.2,h_1⟩,Wk.of [(0,some 0),(1,some 1),(2,some 51)] rfl rfl ?_ ?_,Nat.lt_succ_self _⟩
  ·cbv;all_goals exact⟨⟨_,rfl,rfl⟩,⟨_,rfl,rfl⟩,⟨_,rfl,rfl⟩,⟨_,rfl,rfl⟩,⟨_,rfl,rfl⟩,⟨_,rfl,rfl⟩,⟨_,rfl,rfl⟩,⟨_,rfl,rfl⟩,⟨_,rfl,rfl⟩,trivial⟩
  cbv;all_goals exact⟨⟨_,rfl,_,rfl,rfl,rfl,rfl,trivial⟩,⟨_,rfl,rfl⟩,⟨_,rfl,rfl⟩,trivial⟩
 rintro y1 hy1;replace hy1:=hy1.symm;subst hy1;try dsimp only[lr,lrL,lrp,aP] at h
 cbv;obtain⟨hc2,h⟩:=ah h;refine AStep.mk hc2 ?_;cbv;obtain⟨x3,hx3,h⟩:=aB h;try dsimp only at h
 refine AGet.mk _ (bD hg ht hx3) ?_;cbv;obtain⟨l4,hl4,h⟩:=ak h;try dsimp only at h
 refine ANew.mk (d_I64 l4) _ (by rw[←hl4];exact jI hg ht _ _ (imax a3 0)) rfl ?_;have hnl4:(dlen (d_I64 y1))=(d_I64 l4).length:=(by rw[←hl4,ic ht];exact(ao hg ht _));cbv;obtain⟨hB2,h⟩:=ah h;obtain⟨o2,ho2,h⟩:=ac h;try dsimp only at h
 try rw[hg] at ho2
 try rw[ht] at ho2
 refine ABL.mk {p:Nat×Int×List Int//p.1=aq p.2.1 a4∧0≤p.2.1∧dv G.real TE.real (Network.mk a0_Legs a0_Off a0_Change) a1 x1 x2 p.1 p.2.2=some o2} (fun⟨⟨n2,v2,w2⟩,_⟩=>({sl:=[(1,.c (.r (r_Fd a1))),(4,.c (.r (.v (.int .i64 a4)))),(5,.c (.p 0 3 0 0)),(11,.c (.f 1 1 0 (dlen (d_S x1)))),(12,.c (.r (.v (.int .i64 x2)))),(13,.c (.f 2 1 0 (dlen (d_I64 w2)))),(14,.c (.r (.v (.int .i64 v2))))],tab:=[(0,some (.foc 3 [] [.r (.s 6 (r_Leg a0_Legs)),.r (.s 1 (r_I64 a0_Off)),.r (.v (.int .i64 a0_Change))] [])),(1,some (.arr 1 (d_S x1))),(2,some (.arr 1 (d_I64 w2)))]}:St)) 3 (fun p=>p.1.1) ⟨(aq 0 a4,0,l4),rfl,Int.le_refl _,ho2⟩ (List Int) (fun y3=>({sl:=[(13,.c (.f 0 1 0 (dlen (d_I64 y3))))],tab:=[(0,some (.arr 1 (d_I64 y3)))]}:St)) 1 (fun y=>o2=y) ?_ ?_ ?_
 ·refine Wk.of [(0,some 0),(1,some 1),(2,some 2)] rfl rfl ?_ ?_
  ·cbv;all_goals try rw[show(dlen (d_I64 y1))=(dlen (d_I64 l4)) from(hnl4).trans (ao hg ht _).symm]
   all_goals exact⟨⟨_,rfl,rfl⟩,⟨_,rfl,rfl⟩,⟨_,rfl,rfl⟩,⟨_,rfl,rfl⟩,⟨_,rfl,rfl⟩,⟨_,rfl,rfl⟩,⟨_,rfl,rfl⟩,trivial⟩
  cbv;all_goals try rw[show(dlen (d_I64 y1))=(dlen (d_I64 l4)) from(hnl4).trans (ao hg ht _).symm]
  all_goals exact⟨⟨_,rfl,_,rfl,rfl,rfl,rfl,trivial⟩,⟨_,rfl,rfl⟩,⟨_,rfl,rfl⟩,trivial⟩
 ·rintro⟨⟨n2,v2,w2⟩,hn2,hi2,h_2⟩ hq2;try dsimp only at hn2 hi2 h_2
  clear hq2;cbv;rcases n2 with _|n2
  ·have hb5:lt v2 a4=false:=be hg hn2;rw[dv] at h_2;try rw[←hg] at h_2
   try rw[←ht] at h_2
   try dsimp only at h_2
   rw[hb5];cbv;refine⟨w2,Wk.of [(0,some 2)] rfl rfl ?_ ?_,(Option.some.inj h_2).symm⟩
   ·cbv;all_goals exact⟨⟨_,rfl,rfl⟩,trivial⟩
   cbv;all_goals exact⟨⟨_,rfl,rfl⟩,trivial⟩
  have hb5:lt v2 a4=true:=bF hg hn2;have hl2:=dM hn2;have hs2:=cF hg hn2 hi2 hB2 (by decide);rw[dv] at h_2;try rw[←hg] at h_2
  try rw[←ht] at h_2
  try dsimp only at h_2
  rw[hb5];cbv;obtain⟨l5,hl5,h_2⟩:=ak h_2;try dsimp only at h_2
  refine ANew.mk (d_I64 l5) (dlen (d_I64 l5)) (by rw[←hl5];exact fo hg ht []) (by rw[←hl5];exact dX hg ht []) ?_;cbv;obtain⟨hc9,h_2⟩:=ah h_2;refine AStep.mk ⟨(wA hg ht (ao hg ht _)),(jD hg ht (ao hg ht _) (pw hg ht (ao hg ht _)) hc9)⟩ ?_;cbv;obtain⟨l6,hl6,h_2⟩:=ak h_2;try dsimp only at h_2
  refine ANew.mk (d_I64 l6) (dlen (d_I64 l6)) (by rw[←hl6];exact oR hg ht (ao hg ht _) (pw hg ht (ao hg ht _))) (by rw[←hl6];exact mE hg ht (ao hg ht _) (pw hg ht (ao hg ht _))) ?_;cbv;obtain⟨o3,ho3,h_2⟩:=ac h_2;try dsimp only at h_2
  try rw[hg] at ho3
  try rw[ht] at ho3
  refine ABL.mk {p:Nat×Int×(List Int)×Bool//p.1≤a0_Legs.length∧p.2.1=((p.1:Nat):Int)∧bx G.real TE.real (Network.mk a0_Legs a0_Off a0_Change) a1 w2 x1 x2 (List.drop p.1 a0_Legs) p.2.1 p.2.2.1 p.2.2.2=some o3} (fun⟨⟨k3,v4,w3,v3⟩,_⟩=>({sl:=[(1,.c (.r (r_Fd a1))),(4,.c (.r (.v (.int .i64 a4)))),(5,.c (.p 0 3 0 0)),(11,.c (.f 1 1 0 (dlen (d_S x1)))),(12,.c (.r (.v (.int .i64 x2)))),(13,.c (.f 2 1 0 (dlen (d_I64 w2)))),(14,.c (.r (.v (.int .i64 v2)))),(15,.c (.f 3 1 0 (dlen (d_I64 w3)))),(16,.c (.r (.v (.bool v3)))),(61,.c (.r (.s 6 (r_Leg a0_Legs)))),(62,.c (.r (.v (.int .i64 (llen (r_Leg a0_Legs)))))),(63,.c (.r (.v (.int .i64 v4))))],tab:=[(0,some (.foc 3 [] [.r (.s 6 (r_Leg a0_Legs)),.r (.s 1 (r_I64 a0_Off)),.r (.v (.int .i64 a0_Change))] [])),(1,some (.arr 1 (d_S x1))),(2,some (.arr 1 (d_I64 w2))),(3,some (.arr 1 (d_I64 w3)))]}:St)) 4 (fun p=>a0_Legs.length-p.1.1) ⟨(0,0,l6,false),Nat.zero_le _,rfl,ho3⟩ ((List Int)×Bool) (fun⟨y2_1,y2_2⟩=>({sl:=[(1,.c (.r (r_Fd a1))),(4,.c (.r (.v (.int .i64 a4)))),(5,.c (.p 0 3 0 0)),(11,.c (.f 1 1 0 (dlen (d_S x1)))),(12,.c (.r (.v (.int .i64 x2)))),(14,.c (.r (.v (.int .i64 v2)))),(15,.c (.f 2 1 0 (dlen (d_I64 y2_1)))),(16,.c (.r (.v (.bool y2_2))))],tab:=[(0,some (.foc 3 [] [.r (.s 6 (r_Leg a0_Legs)),.r (.s 1 (r_I64 a0_Off)),.r (.v (.int .i64 a0_Change))] [])),(1,some (.arr 1 (d_S x1))),(2,some (.arr 1 (d_I64 y2_1)))]}:St)) 3 (fun y=>o3=y) ?_ ?_ ?_
  ·refine Wk.of [(0,some 0),(1,some 1),(2,some 2),(3,some 83)] rfl rfl ?_ ?_
   ·cbv;all_goals exact⟨⟨_,rfl,rfl⟩,⟨_,rfl,rfl⟩,⟨_,rfl,rfl⟩,⟨_,rfl,rfl⟩,⟨_,rfl,rfl⟩,⟨_,rfl,rfl⟩,⟨_,rfl,rfl⟩,⟨_,rfl,rfl⟩,⟨_,rfl,rfl⟩,⟨_,rfl,rfl⟩,⟨_,rfl,rfl⟩,⟨_,rfl,rfl⟩,trivial⟩
   cbv;all_goals exact⟨⟨_,rfl,_,rfl,rfl,rfl,rfl,trivial⟩,⟨_,rfl,rfl⟩,⟨_,rfl,rfl⟩,⟨_,rfl,rfl⟩,trivial⟩
  ·rintro⟨⟨k3,v4,w3,v3⟩,hk3,hi3,h_3⟩ hq3;have hm3:=(hq3.1 61 _ _ rfl);try dsimp only at hk3 hi3 h_3
   clear hq3;cbv
   by_cases hc3_:k3<a0_Legs.length
   ·have hb6:lt v4 (llen (r_Leg a0_Legs))=true:=cL hg ht hi3 hc3_;have hs3:=ff hg ht hi3 hc3_ hm3;obtain⟨z3,hz3⟩:=aF hc3_;rw[aw hz3] at h_3;rw[bx] at h_3;obtain⟨z3_From,z3_To,z3_Start,z3_Takes,z3_Days,z3_Room⟩:=z3;try rw[←hg] at h_3
    try rw[←ht] at h_3
    try dsimp only at h_3
    rw[hb6];cbv;refine AStep.mk (e7 hi3) ?_;cbv;refine AGet.mk _ (eU hg ht hi3 hz3) ?_;cbv;refine AStep.mk (dN ht (al hg ht _)) ?_;cbv;obtain⟨x4,hx4,h_3⟩:=ak h_3;try dsimp only at h_3
    refine ACall.mk _ _ (by rw[show rd (d_S x1) 0 (dlen (d_S x1))=r_S x1 from f7 hg ht (al hg ht _)];try rfl) (hF _ _ _ (fF hg ht hx4)) (.inr rfl) (nb rfl) ?_
    cbv;refine AStep.mk (dN ht (al hg ht _)) ?_;cbv;obtain⟨x5,hx5,h_3⟩:=ak h_3;try dsimp only at h_3
    refine ACall.mk _ _ (by rw[show rd (d_S x1) 0 (dlen (d_S x1))=r_S x1 from f7 hg ht (al hg ht _)];try rfl) (hF _ _ _ (fF hg ht hx5)) (.inr rfl) (nb rfl) ?_
    cbv;obtain⟨hc3,h_3⟩:=ah h_3;refine AStep.mk hc3 ?_;cbv;obtain⟨x6,hx6,h_3⟩:=aB h_3;try dsimp only at h_3
    refine AGet.mk _ (bD hg ht hx6) ?_;cbv
    cases hb7:(lt x6 0)
    rotate_left
    ·rw[ab hb7] at h_3;cbv;try rw[hg] at h_3
     try rw[ht] at h_3
     refine⟨⟨(k3+1,(wrap .i64 (add v4 1)),w3,v3),hc3_,hs3,h_3⟩,Wk.of [(0,some 0),(1,some 1),(2,some 2),(3,some 3)] rfl rfl ?_ ?_,aO hc3_⟩
     ·cbv;all_goals exact⟨⟨_,rfl,rfl⟩,⟨_,rfl,rfl⟩,⟨_,rfl,rfl⟩,⟨_,rfl,rfl⟩,⟨_,rfl,rfl⟩,⟨_,rfl,rfl⟩,⟨_,rfl,rfl⟩,⟨_,rfl,rfl⟩,⟨_,rfl,rfl⟩,⟨_,rfl,rfl⟩,⟨_,rfl,rfl⟩,⟨_,rfl,rfl⟩,trivial⟩
     cbv;all_goals exact⟨⟨_,rfl,_,rfl,rfl,rfl,rfl,trivial⟩,⟨_,rfl,rfl⟩,⟨_,rfl,rfl⟩,⟨_,rfl,rfl⟩,trivial⟩
    rw[aa hb7] at h_3;cbv;obtain⟨hc4,h_3⟩:=ah h_3;refine AStep.mk hc4 ?_;cbv;refine AGet.mk _ (bD hg ht hx6) ?_;cbv;obtain⟨x7,hx7,h_3⟩:=ak h_3;try dsimp only at h_3
    refine ACall.mk _ _ rfl (hF _ _ _ (xq hg ht hx7)) (.inl rfl) (nb rfl) ?_;cbv;obtain⟨x8,hx8,h_3⟩:=ac h_3;obtain⟨⟨x8_1_Leg,x8_1_Day⟩,x8_2⟩:=x8;try dsimp only at h_3
    obtain⟨f_,bs_,hr_,hc_⟩:=Cc hg ht hx8;refine ACallV.mk f_ bs_ _ _ hr_ rfl (hF _ _ _ hc_) (.inl rfl) (nb rfl) ?_;clear hr_ hc_;cbv;have hb8:x8_2=true∨x8_2=false:=by cases x8_2<;>simp
    rcases hb8 with hb8|hb8
    ·rw[ab hb8] at h_3;have hK_:=h_3;subst hb8;have h_3:=hK_;clear hK_;cbv;iterate 2 try(rw[hb8];cbv)
     obtain⟨hc5,h_3⟩:=ah h_3;refine AStep.mk hc5 ?_;cbv;try(rw[hb8];cbv)
     obtain⟨x9,hx9,h_3⟩:=aB h_3;try dsimp only at h_3
     refine AGet.mk _ (bD hg ht hx9) ?_;cbv;iterate 2 try(rw[hb8];cbv)
     cases hb9:(lt x9 0)
     rotate_left
     ·rw[ab hb9] at h_3;cbv;iterate 7 try(rw[hb9];cbv)
      try(rw[hb8];cbv)
      try(rw[hb9];cbv)
      try(rw[hb8];cbv)
      obtain⟨x10,hx10,h_3⟩:=ac h_3;try dsimp only at h_3
      refine ACall.mk _ _ rfl (hF _ _ _ (fE hg ht hx10)) (.inl rfl) (nb rfl) ?_;cbv;obtain⟨hc6,h_3⟩:=ah h_3;refine AStep.mk hc6 ?_;cbv;refine AGet.mk _ (bD hg ht hx9) ?_;cbv;obtain⟨l7,hl7,h_3⟩:=ak h_3;try dsimp only at h_3
      refine ANew.mk (d_I64 l7) _ (by rw[←hl7];exact jI hg ht _ _ x10) rfl ?_;have hnl7:(dlen (d_I64 w3))=(d_I64 l7).length:=(by rw[←hl7,ic ht];exact(ao hg ht _));cbv;try rw[hg] at h_3
      try rw[ht] at h_3
      refine⟨⟨(k3+1,(wrap .i64 (add v4 1)),l7,true),hc3_,hs3,h_3⟩,Wk.of [(0,some 0),(1,some 1),(2,some 2),(3,some 3)] rfl rfl ?_ ?_,aO hc3_⟩
      ·cbv;all_goals try rw[show(dlen (d_I64 w3))=(dlen (d_I64 l7)) from(hnl7).trans (ao hg ht _).symm]
       all_goals exact⟨⟨_,rfl,rfl⟩,⟨_,rfl,rfl⟩,⟨_,rfl,rfl⟩,⟨_,rfl,rfl⟩,⟨_,rfl,rfl⟩,⟨_,rfl,rfl⟩,⟨_,rfl,rfl⟩,⟨_,rfl,rfl⟩,⟨_,rfl,rfl⟩,⟨_,rfl,rfl⟩,⟨_,rfl,rfl⟩,⟨_,rfl,rfl⟩,trivial⟩
      cbv;all_goals try rw[show(dlen (d_I64 w3))=(dlen (d_I64 l7)) from(hnl7).trans (ao hg ht _).symm]
      all_goals exact⟨⟨_,rfl,_,rfl,rfl,rfl,rfl,trivial⟩,⟨_,rfl,rfl⟩,⟨_,rfl,rfl⟩,⟨_,rfl,rfl⟩,trivial⟩
     rw[aa hb9] at h_3;cbv;iterate 2 try(rw[hb9];cbv)
     obtain⟨x11,hx11,h_3⟩:=ac h_3;try dsimp only at h_3
     refine ACall.mk _ _ rfl (hF _ _ _ (fE hg ht hx11)) (.inl rfl) (nb rfl) ?_;cbv;iterate 3 try(rw[hb9];cbv)
     obtain⟨hc7,h_3⟩:=ah h_3;refine AStep.mk hc7 ?_;cbv;try(rw[hb9];cbv)
     refine AGet.mk _ (bD hg ht hx9) ?_;cbv;try(rw[hb9];cbv)
     try(rw[hb8];cbv)
     try(rw[hb9];cbv)
     try(rw[hb8];cbv)
     cases hb10:(lt x11 x9)
     ·rw[aa hb10] at h_3;cbv;try rw[hg] at h_3
      try rw[ht] at h_3
      refine⟨⟨(k3+1,(wrap .i64 (add v4 1)),w3,v3),hc3_,hs3,h_3⟩,Wk.of [(0,some 0),(1,some 1),(2,some 2),(3,some 3)] rfl rfl ?_ ?_,aO hc3_⟩
      ·cbv;all_goals exact⟨⟨_,rfl,rfl⟩,⟨_,rfl,rfl⟩,⟨_,rfl,rfl⟩,⟨_,rfl,rfl⟩,⟨_,rfl,rfl⟩,⟨_,rfl,rfl⟩,⟨_,rfl,rfl⟩,⟨_,rfl,rfl⟩,⟨_,rfl,rfl⟩,⟨_,rfl,rfl⟩,⟨_,rfl,rfl⟩,⟨_,rfl,rfl⟩,trivial⟩
      cbv;all_goals exact⟨⟨_,rfl,_,rfl,rfl,rfl,rfl,trivial⟩,⟨_,rfl,rfl⟩,⟨_,rfl,rfl⟩,⟨_,rfl,rfl⟩,trivial⟩
     rw[ab hb10] at h_3;cbv;obtain⟨x12,hx12,h_3⟩:=ac h_3;try dsimp only at h_3
     refine ACall.mk _ _ rfl (hF _ _ _ (fE hg ht hx12)) (.inl rfl) (nb rfl) ?_;cbv;obtain⟨hc8,h_3⟩:=ah h_3;refine AStep.mk hc8 ?_;cbv;refine AGet.mk _ (bD hg ht hx9) ?_;cbv;obtain⟨l8,hl8,h_3⟩:=ak h_3;try dsimp only at h_3
     refine ANew.mk (d_I64 l8) _ (by rw[←hl8];exact jI hg ht _ _ x12) rfl ?_;have hnl8:(dlen (d_I64 w3))=(d_I64 l8).length:=(by rw[←hl8,ic ht];exact(ao hg ht _));cbv;try rw[hg] at h_3
     try rw[ht] at h_3
     refine⟨⟨(k3+1,(wrap .i64 (add v4 1)),l8,true),hc3_,hs3,h_3⟩,Wk.of [(0,some 0),(1,some 1),(2,some 2),(3,some 3)] rfl rfl ?_ ?_,aO hc3_⟩
     ·cbv;all_goals try rw[show(dlen (d_I64 w3))=(dlen (d_I64 l8)) from(hnl8).trans (ao hg ht _).symm]
      all_goals exact⟨⟨_,rfl,rfl⟩,⟨_,rfl,rfl⟩,⟨_,rfl,rfl⟩,⟨_,rfl,rfl⟩,⟨_,rfl,rfl⟩,⟨_,rfl,rfl⟩,⟨_,rfl,rfl⟩,⟨_,rfl,rfl⟩,⟨_,rfl,rfl⟩,⟨_,rfl,rfl⟩,⟨_,rfl,rfl⟩,⟨_,rfl,rfl⟩,trivial⟩
     cbv;all_goals try rw[show(dlen (d_I64 w3))=(dlen (d_I64 l8)) from(hnl8).trans (ao hg ht _).symm]
     all_goals exact⟨⟨_,rfl,_,rfl,rfl,rfl,rfl,trivial⟩,⟨_,rfl,rfl⟩,⟨_,rfl,rfl⟩,⟨_,rfl,rfl⟩,trivial⟩
    rw[aa hb8] at h_3;have hK_:=h_3;subst hb8;have h_3:=hK_;clear hK_;cbv;iterate 7 try(rw[hb8];cbv)
    try rw[hg] at h_3
    try rw[ht] at h_3
    refine⟨⟨(k3+1,(wrap .i64 (add v4 1)),w3,v3),hc3_,hs3,h_3⟩,Wk.of [(0,some 0),(1,some 1),(2,some 2),(3,some 3)] rfl rfl ?_ ?_,aO hc3_⟩
    ·cbv;all_goals exact⟨⟨_,rfl,rfl⟩,⟨_,rfl,rfl⟩,⟨_,rfl,rfl⟩,⟨_,rfl,rfl⟩,⟨_,rfl,rfl⟩,⟨_,rfl,rfl⟩,⟨_,rfl,rfl⟩,⟨_,rfl,rfl⟩,⟨_,rfl,rfl⟩,⟨_,rfl,rfl⟩,⟨_,rfl,rfl⟩,⟨_,rfl,rfl⟩,trivial⟩
    cbv;all_goals exact⟨⟨_,rfl,_,rfl,rfl,rfl,rfl,trivial⟩,⟨_,rfl,rfl⟩,⟨_,rfl,rfl⟩,⟨_,rfl,rfl⟩,trivial⟩
   have hb6:lt v4 (llen (r_Leg a0_Legs))=false:=cg hg ht hi3 hc3_;rw[List.drop_of_length_le (Nat.le_of_not_lt hc3_)] at h_3;rw[bx] at h_3;try rw[←hg] at h_3
   try rw[←ht] at h_3
   try dsimp only at h_3
   rw[hb6];cbv;refine⟨(w3,v3),Wk.of [(0,some 0),(1,some 1),(2,some 3)] rfl rfl ?_ ?_,(Option.some.inj h_3).symm⟩
   ·cbv;all_goals exact⟨⟨_,rfl,rfl⟩,⟨_,rfl,rfl⟩,⟨_,rfl,rfl⟩,⟨_,rfl,rfl⟩,⟨_,rfl,rfl⟩,⟨_,rfl,rfl⟩,⟨_,rfl,rfl⟩,⟨_,rfl,rfl⟩,trivial⟩
   cbv;all_goals exact⟨⟨_,rfl,_,rfl,rfl,rfl,rfl,trivial⟩,⟨_,rfl,rfl⟩,⟨_,rfl,rfl⟩,trivial⟩
  rintro⟨y2_1,y2_2⟩ hy3;replace hy3:=hy3.symm;subst hy3;try dsimp only[lr,lrL,lrp,aP] at h_2
  cbv
  cases hb11:y2_2
  ·rw[aa hb11] at h_2;cbv;refine⟨y2_1,Wk.of [(0,some 2)] rfl rfl ?_ ?_,(Option.some.inj h_2).symm⟩
   ·cbv;all_goals exact⟨⟨_,rfl,rfl⟩,trivial⟩
   cbv;all_goals exact⟨⟨_,rfl,rfl⟩,trivial⟩
  rw[ab hb11] at h_2;cbv;try rw[hg] at h_2
  try rw[ht] at h_2
  refine⟨⟨(n2,(wrap .i64 (add v2 1)),y2_1),hs2.1,hs2.2,h_2⟩,Wk.of [(0,some 0),(1,some 1),(2,some 2)] rfl rfl ?_ ?_,Nat.lt_succ_self _⟩
  ·cbv;all_goals exact⟨⟨_,rfl,rfl⟩,⟨_,rfl,rfl⟩,⟨_,rfl,rfl⟩,⟨_,rfl,rfl⟩,⟨_,rfl,rfl⟩,⟨_,rfl,rfl⟩,⟨_,rfl,rfl⟩,trivial⟩
  cbv;all_goals exact⟨⟨_,rfl,_,rfl,rfl,rfl,rfl,trivial⟩,⟨_,rfl,rfl⟩,⟨_,rfl,rfl⟩,trivial⟩
 rintro y3 hy2;replace hy2:=hy2.symm;subst hy2;try dsimp only[lr,lrL,lrp,aP] at h
 cbv;obtain rfl:=Option.some.inj h;exact ARet.mk ⟨rfl,(ao hg ht _)⟩ hX.symm
def Ho:J:=js [jq 1 (.box 0),jq 2 (.mv (.k (.c .un)))] [1] (js [jq 3 (.clo false 172 [1]),jm 2 3] [2] .ret)
def HV:List RV:=[.t 2]
def ov (g:G) (t:TE) (a0:Network):Fd:=
 (Fd.I_nextOf_1 a0)
theorem xX {g:G} {t:TE} {a0:Network} {r:Fd} (hg:g=G.real) (ht:t=TE.real) (h:ov g t a0=r):Fn Tryz.prog 153 [.g (Network.rs t a0)] (.c (.r (t.r_Fd r))):=by
 obtain⟨X,hX⟩:=aE (.c (.r (t.r_Fd r)):X);rw[←hX];refine au (rvs:=HV) (j:=Ho) Tryz.func153 rfl (by kernel_rfl) (nb rfl) (by kernel_rfl) ae ?_;intro g2 F hg2 hF;obtain rfl:g2=g:=hg2.unique.trans hg.symm;clear hg2;obtain⟨_⟩:=g2;obtain⟨_,_,_,_,_,_,_,_,_,_,_,_,r_Fd⟩:=t
 obtain⟨a0_Legs,a0_Off,a0_Change⟩:=a0;unfold ov at h;try dsimp only at h
 cbv;refine AClo.mk (r_Fd (Fd.I_nextOf_1 (Network.mk a0_Legs a0_Off a0_Change))) (mG ht (Network.mk a0_Legs a0_Off a0_Change)) ?_;cbv;subst h;exact ARet.mk trivial hX.symm
def HK:J:=js [jq 4 (.box 0),jq 8 (.mv (.k (.c (.n 1))))] [1,2,3,4] (.seq (js [jl 9 3 4,jc 10 88 [9],jq 11 (.not 10)] [1,2,3,4,11] (.cond 11 (js [jq 8 (.mv (.k (.c (.n 1))))] [8] .ret) .skip)) (.seq (.reg (some [[],[],[1],[],[],[],[0,1,2,3,4,5],[0,1,2,3,4,5,6]]) [jl 12 3 4,jl 13 3 4,jc 14 153 [13],jm 15 1,jm 16 2,jm 17 3,jc 18 152 [12,14,15,16,17],jm 8 18] [8]) .ret))
def H7:List RV:=[.t 8]
def dC (g:G) (t:TE) (a0:Network) (a1:ByteArray) (a2:Int) (a3:Int):Option (List Int):=
 cl (dk g t a0) fun x1=>
 br x1
 (
  lP (ov g t a0) fun x2=>
  cl (jR g t a0 x2 a1 a2 a3) fun x3=>
  some x3)
 (
  some [])
theorem pf {g:G} {t:TE} {a0:Network} {a1:ByteArray} {a2:Int} {a3:Int} {r:List Int} (hg:g=G.real) (ht:t=TE.real) (h:dC g t a0 a1 a2 a3=some r):Fn Tryz.prog 142 [.g (Network.rs t a0),.c (.v (.string a1)),.c (.v (.int .i64 a2)),.c (.v (.int .i64 a3))] (.c (.o 1 (t.d_I64 r))):=by
 obtain⟨X,hX⟩:=aE (.c (.o 1 (t.d_I64 r)):X);rw[←hX];refine au (rvs:=H7) (j:=HK) Tryz.func142 rfl (by kernel_rfl) (nb rfl) (by kernel_rfl) ae ?_;intro g2 F hg2 hF;obtain rfl:g2=g:=hg2.unique.trans hg.symm;clear hg2;obtain⟨_⟩:=g2;obtain⟨_,_,_,d_I64⟩:=t
 obtain⟨a0_Legs,a0_Off,a0_Change⟩:=a0;have hnil_I64:d_I64 []=[]:=tu ht;unfold dC at h;try dsimp only at h
 cbv;obtain⟨x1,hx1,h⟩:=ac h;try dsimp only at h
 refine ACall.mk _ _ rfl (hF _ _ _ (gj hg ht hx1)) (.inl rfl) (nb rfl) ?_;cbv
 cases hb1:x1
 ·rw[aa hb1] at h;cbv;obtain rfl:=Option.some.inj h;exact ARet.mk trivial (by rw[hX];first|rfl|(simp only[Leg.ds,Network.ds,Trip.ds,Scan.ds,Belief.ds,Spot.ds,Know.ds,hnil_I64];try rfl))
 rw[ab hb1] at h;cbv;obtain⟨x2,hx2,h⟩:=ak h;try dsimp only at h
 refine ACall.mk _ _ rfl (hF _ _ _ (xX hg ht hx2)) (.inl rfl) (nb rfl) ?_;cbv;obtain⟨x3,hx3,h⟩:=ac h;try dsimp only at h
 refine ACall.mk _ _ rfl (hF _ _ _ (u9 hg ht hx3)) (.inl rfl) (nb rfl) ?_;cbv;obtain rfl:=Option.some.inj h;exact ARet.mk ⟨rfl,(ao hg ht _)⟩ hX.symm
def GG:J:=js [jq 4 (.box 0),jm 8 (ki 0)] [1,2,3,4] (js [jl 12 3 4,jc 13 82 [12],jm 9 13] [1,2,3,4,9] (js [jl 14 3 4,jm 15 1,jm 16 3,jm 17 9,jq 18 (.len false 17),jc 19 142 [14,15,16,18],jm 10 19] [2,9,10] (js [jm 20 9,jm 21 2,jc 22 81 [20,21],jm 11 22] [10,11] (.seq (js [jm 23 11,jb 24 .lss .i 23 (ki 0),jm 25 24,jv 26 25 (.mv 10),jv 27 25 (.len false 26),jv 28 25 (.bin .eql .i 27 (ki 0)),jq 29 (.pick 25 kt 28)] [10,11,29] (.cond 29 (js [jq 8 (.mv (.k (V.i (-1))))] [8] .ret) .skip)) (js [jm 30 10,jm 31 11,ja 32 1 30 31,jk 33 32,jm 8 33] [8] .ret)))))
def HA:List RV:=[.t 8]
def fT (g:G) (t:TE) (a0:Network) (a1:ByteArray) (a2:ByteArray) (a3:Int):Option Int:=
 cl (en g t a0) fun x1=>
 cl (dC g t a0 a1 a3 (g.int (g.dlen (t.d_S x1)))) fun x2=>
 lP (dP g t x1 a2) fun x3=>
 br (g.lt x3 0)
 (
  some (-1))
 (
  br (g.eq (g.int (g.dlen (t.d_I64 x2))) 0)
  (
   some (-1))
  (
   gd (((0:Int)≤x3∧x3<(((g.dlen (t.d_I64 x2)):Nat):Int)))<|
   gt x2 (g.nat x3) fun x4=>
   some x4))
theorem lT {g:G} {t:TE} {a0:Network} {a1:ByteArray} {a2:ByteArray} {a3:Int} {r:Int} (hg:g=G.real) (ht:t=TE.real) (h:fT g t a0 a1 a2 a3=some r):Fn Tryz.prog 122 [.g (Network.rs t a0),.c (.v (.string a1)),.c (.v (.string a2)),.c (.v (.int .i64 a3))] (.c (.r (.v (.int .i64 r)))):=by
 obtain⟨X,hX⟩:=aE (.c (.r (.v (.int .i64 r))):X);rw[←hX];refine au (rvs:=HA) (j:=GG) Tryz.func122 rfl (by kernel_rfl) (nb rfl) (by kernel_rfl) ae ?_;intro g2 F hg2 hF;obtain rfl:g2=g:=hg2.unique.trans hg.symm;clear hg2;obtain⟨_,lt,_,eq,_,_,_,_,_,_,_,_,int,_,_,_,_,_,_,_,_,_,_,_,dlen,_,_,_,rd⟩:=g2;obtain⟨_,_,_,d_I64,_,_,r_S,d_S⟩:=t
 obtain⟨a0_Legs,a0_Off,a0_Change⟩:=a0;unfold fT at h;try dsimp only at h
 cbv;obtain⟨x1,hx1,h⟩:=ac h;try dsimp only at h
 refine ACall.mk _ _ rfl (hF _ _ _ (fO hg ht hx1)) (.inl rfl) (nb rfl) ?_;cbv;obtain⟨x2,hx2,h⟩:=ac h;try dsimp only at h
 refine ACall.mk _ _ rfl (hF _ _ _ (pf hg ht hx2)) (.inl rfl) (nb rfl) ?_;cbv;refine AStep.mk (dN ht (al hg ht _)) ?_;cbv;obtain⟨x3,hx3,h⟩:=ak h;try dsimp only at h
 refine ACall.mk _ _ (by rw[show rd (d_S x1) 0 (dlen (d_S x1))=r_S x1 from f7 hg ht (al hg ht _)];try rfl) (hF _ _ _ (fF hg ht hx3)) (.inr rfl) (nb rfl) ?_
 cbv
 cases hb1:(lt x3 0)
 rotate_left
 ·rw[ab hb1] at h;cbv;iterate 3 try(rw[hb1];cbv)
  obtain rfl:=Option.some.inj h;exact ARet.mk trivial hX.symm
 rw[aa hb1] at h;cbv;iterate 3 try(rw[hb1];cbv)
 cases hb2:(eq (int (dlen (d_I64 x2))) 0)
 rotate_left
 ·rw[ab hb2] at h;cbv;obtain rfl:=Option.some.inj h;exact ARet.mk trivial hX.symm
 rw[aa hb2] at h;cbv;obtain⟨hc1,h⟩:=ah h;refine AStep.mk hc1 ?_;cbv;obtain⟨x4,hx4,h⟩:=aB h;try dsimp only at h
 refine AGet.mk _ (bD hg ht hx4) ?_;cbv;obtain rfl:=Option.some.inj h;exact ARet.mk trivial hX.symm
def GY:J:=js [jq 3 (.box 0),jq 4 (.box 1),jq 5 (.box 2),jm 6 kf] [3,4,5] (.seq (js [jf 8 0 4,jk 9 8,jf 10 0 5,jk 11 10,jb 12 .eql .s 9 11] [3,4,5,12] (.cond 12 (js [jf 13 1 4,jk 14 13,jf 15 1 5,jk 16 15,jb 17 .leq .i 14 16,jm 6 17] [6] .ret) .skip)) (js [jl 18 3 3,jf 19 0 4,jk 20 19,jf 21 0 5,jk 22 21,jf 23 1 4,jk 24 23,jc 25 122 [18,20,22,24],jm 7 25] [5,7] (js [jm 26 7,jq 27 (.bin .neq .i 26 (.k (V.i (-1)))),jm 28 27,ju 29 28 (.mv 7),ju 30 28 (.fa 1 5),ju 31 28 (.ld false 1 30),ju 32 28 (.bin .leq .i 29 31),jq 33 (.pick 28 32 kf),jm 6 33] [6] .ret)))
def GD:List RV:=[.t 6]
def fJ (g:G) (t:TE) (a0:Network) (a1:Spot) (a2:Spot):Option Bool:=
 br (g.seq a1.Place a2.Place)
 (
  some (g.le a1.At a2.At))
 (
  cl (fT g t a0 a1.Place a2.Place a1.At) fun x1=>
  br (g.eq x1 (-1))
  (
   some false)
  (
   some (g.le x1 a2.At)))
theorem kA {g:G} {t:TE} {a0:Network} {a1:Spot} {a2:Spot} {r:Bool} (hg:g=G.real) (ht:t=TE.real) (h:fJ g t a0 a1 a2=some r):Fn Tryz.prog 116 [.g (Network.rs t a0),.g (Spot.rs t a1),.g (Spot.rs t a2)] (.c (.r (.v (.bool r)))):=by
 obtain⟨X,hX⟩:=aE (.c (.r (.v (.bool r))):X);rw[←hX];refine au (rvs:=GD) (j:=GY) Tryz.func116 rfl (by kernel_rfl) (nb rfl) (by kernel_rfl) ae ?_;intro g2 F hg2 hF;obtain rfl:g2=g:=hg2.unique.trans hg.symm;clear hg2;obtain⟨_,_,_,eq,_,_,_,_,_,_,_,_,_,_,_,_,_,seq⟩:=g2;obtain⟨_⟩:=t
 obtain⟨a0_Legs,a0_Off,a0_Change⟩:=a0;obtain⟨a1_Place,a1_At⟩:=a1;obtain⟨a2_Place,a2_At⟩:=a2;unfold fJ at h;try dsimp only at h
 cbv
 cases hb1:(seq a1_Place a2_Place)
 rotate_left
 ·rw[ab hb1] at h;cbv;obtain rfl:=Option.some.inj h;exact ARet.mk trivial hX.symm
 rw[aa hb1] at h;cbv;obtain⟨x1,hx1,h⟩:=ac h;try dsimp only at h
 refine ACall.mk _ _ rfl (hF _ _ _ (lT hg ht hx1)) (.inl rfl) (nb rfl) ?_;cbv
 cases hb2:(eq x1 (-1))
 rotate_left
 ·rw[ab hb2] at h;cbv;iterate 4 try(rw[hb2];cbv)
  obtain rfl:=Option.some.inj h;exact ARet.mk trivial hX.symm
 rw[aa hb2] at h;cbv;iterate 4 try(rw[hb2];cbv)
 obtain rfl:=Option.some.inj h;exact ARet.mk trivial hX.symm
def H4:J:=js [jq 2 (.box 0),jq 3 (.box 1),jq 4 (.alloc [.r (.v (.string .empty)),.r (.v (.int .i64 0))])] [2,3,4] (.seq (js [jl 5 3 2,jl 6 6 3,jc 7 67 [5,6],jq 8 (.not 7)] [2,3,4,8] (.cond 8 (js [jq 9 (.bld [.r (.v (.string .empty)),.r (.v (.int .i64 0))] []),jp (.st 2 4 9)] [4] .ret) .skip)) (.seq (js [jf 10 2 3,jk 11 10,jb 12 .eql .i 11 (ki 3),jm 13 12,jv 14 13 (.fa 2 3),jv 15 13 (.ld false 1 14),jv 16 13 (.bin .eql .i 15 (ki 2)),jq 17 (.pick 13 kt 16)] [2,3,4,17] (.cond 17 (.seq (.reg (some [[],[0],[],[2],[2,3],[0,1,2,3,4],[0,1,2,3,4,5],[0,1,2,3,4,5,6],[],[],[9],[8,9,10],[0,1,2,3,4,5,6,7,8,9,10,11],[0,1,2,3,4,5,6,7,8,9,10,11,12]]) [jf 18 0 2,jk 19 18,jf 20 4 3,jf 21 0 20,jk 22 21,ja 23 6 19 22,jf 24 0 23,jk 25 24,jl 26 3 2,jf 27 4 3,jl 28 2 27,jc 29 105 [26,28],jq 30 (.bld [.r (.v (.string .empty)),.r (.v (.int .i64 0))] [(0,1,25),(1,1,29)]),jp (.st 2 4 30)] [4]) .ret) .skip)) (js [jf 31 3 3,jk 32 31,jf 33 1 3,jk 34 33,jq 35 (.bld [.r (.v (.string .empty)),.r (.v (.int .i64 0))] [(0,1,32),(1,1,34)]),jp (.st 2 4 35)] [4] .ret)))
def HJ:List RV:=[.c 4 true 2]
def bC (g:G) (t:TE) (a0:Network) (a1:Scan):Option Spot:=
 cl (gf g t a0 (Scan.mk a1.Thing a1.At a1.Kind a1.Place (Trip.mk a1.Trip.Leg a1.Trip.Day))) fun x1=>
 br x1
 (
  br (g.eq a1.Kind 3)
  (
   gd (((0:Int)≤a1.Trip.Leg))<|
   gt a0.Legs (g.nat a1.Trip.Leg) fun x2=>
   cl (da g t a0 (Trip.mk a1.Trip.Leg a1.Trip.Day)) fun x3=>
   some (Spot.mk x2.From x3))
  (
   br (g.eq a1.Kind 2)
   (
    gd (((0:Int)≤a1.Trip.Leg))<|
    gt a0.Legs (g.nat a1.Trip.Leg) fun x4=>
    cl (da g t a0 (Trip.mk a1.Trip.Leg a1.Trip.Day)) fun x5=>
    some (Spot.mk x4.From x5))
   (
    some (Spot.mk a1.Place a1.At))))
 (
  some (Spot.mk ByteArray.empty 0))
theorem cw {g:G} {t:TE} {a0:Network} {a1:Scan} {r:Spot} (hg:g=G.real) (ht:t=TE.real) (h:bC g t a0 a1=some r):Fn Tryz.prog 117 [.g (Network.rs t a0),.g (Scan.rs t a1)] (.g (Spot.ds t r)):=by
 obtain⟨X,hX⟩:=aE (.g (Spot.ds t r):X);rw[←hX];refine au (rvs:=HJ) (j:=H4) Tryz.func117 rfl (by kernel_rfl) (nb rfl) (by kernel_rfl) ae ?_;intro g2 F hg2 hF;obtain rfl:g2=g:=hg2.unique.trans hg.symm;clear hg2;obtain⟨_,_,_,eq⟩:=g2;obtain⟨_⟩:=t
 obtain⟨a0_Legs,a0_Off,a0_Change⟩:=a0;obtain⟨a1_Thing,a1_At,a1_Kind,a1_Place,⟨a1_Trip_Leg,a1_Trip_Day⟩⟩:=a1;unfold bC at h;try dsimp only at h
 cbv;obtain⟨x1,hx1,h⟩:=ac h;try dsimp only at h
 refine ACall.mk _ _ rfl (hF _ _ _ (hO hg ht hx1)) (.inl rfl) (nb rfl) ?_;cbv
 cases hb1:x1
 ·rw[aa hb1] at h;cbv;obtain rfl:=Option.some.inj h;exact ARet.mk trivial hX.symm
 rw[ab hb1] at h;cbv
 cases hb2:(eq a1_Kind 3)
 rotate_left
 ·rw[ab hb2] at h;cbv;iterate 3 try(rw[hb2];cbv)
  obtain⟨hc1,h⟩:=ah h;refine AStep.mk hc1 ?_;cbv;obtain⟨x2,hx2,h⟩:=aB h;obtain⟨x2_From,x2_To,x2_Start,x2_Takes,x2_Days,x2_Room⟩:=x2;try dsimp only at h
  refine AGet.mk _ (ax hg ht hx2) ?_;cbv;obtain⟨x3,hx3,h⟩:=ac h;try dsimp only at h
  refine ACall.mk _ _ rfl (hF _ _ _ (dJ hg ht hx3)) (.inl rfl) (nb rfl) ?_;cbv;obtain rfl:=Option.some.inj h;exact ARet.mk trivial hX.symm
 rw[aa hb2] at h;cbv;iterate 3 try(rw[hb2];cbv)
 cases hb3:(eq a1_Kind 2)
 ·rw[aa hb3] at h;cbv;obtain rfl:=Option.some.inj h;exact ARet.mk trivial hX.symm
 rw[ab hb3] at h;cbv;obtain⟨hc2,h⟩:=ah h;refine AStep.mk hc2 ?_;cbv;obtain⟨x4,hx4,h⟩:=aB h;obtain⟨x4_From,x4_To,x4_Start,x4_Takes,x4_Days,x4_Room⟩:=x4;try dsimp only at h
 refine AGet.mk _ (ax hg ht hx4) ?_;cbv;obtain⟨x5,hx5,h⟩:=ac h;try dsimp only at h
 refine ACall.mk _ _ rfl (hF _ _ _ (dJ hg ht hx5)) (.inl rfl) (nb rfl) ?_;cbv;obtain rfl:=Option.some.inj h;exact ARet.mk trivial hX.symm
def ir75:J:=js [jq 3 (.box 0),jq 4 (.box 1),jq 5 (.box 2),jm 6 kf] [3,4,5] (.seq (js [jl 7 3 3,jl 8 6 4,jc 9 67 [7,8],jq 10 (.not 9),jm 11 10,jv 12 11 (.ld true 3 3),jv 13 11 (.ld true 6 5),jv 14 11 (.call 67 true [12,13]),jv 15 11 (.not 14),jq 16 (.pick 11 kt 15),jm 17 16,jv 18 17 (.fa 0 4),jv 19 17 (.ld false 1 18),jv 20 17 (.fa 0 5),jv 21 17 (.ld false 1 20),jv 22 17 (.bin .neq .i 19 21),jq 23 (.pick 17 kt 22),jm 24 23,jv 25 24 (.ld true 6 4),jv 26 24 (.ld true 6 5),jv 27 24 (.call 70 true [25,26]),jv 28 24 (.bin .geq .i 27 (ki 0)),jq 29 (.pick 24 kt 28),jm 30 29,jv 31 30 (.fa 2 4),jv 32 30 (.ld false 1 31),jv 33 30 (.bin .eql .i 32 (ki 4)),jq 34 (.pick 30 kt 33)] [3,4,5,34] (.cond 34 (js [jm 6 kf] [6] .ret) .skip)) (.seq (js [jf 35 2 5,jk 36 35,jb 37 .eql .i 36 (ki 2),jm 38 37,ju 39 38 (.fa 2 4),ju 40 38 (.ld false 1 39),ju 41 38 (.bin .eql .i 40 (ki 3)),jq 42 (.pick 38 41 kf),jm 43 42,ju 44 43 (.fa 4 4),ju 45 43 (.ld true 2 44),ju 46 43 (.fa 4 5),ju 47 43 (.ld true 2 46),ju 48 43 (.eqs false [.i,.i] 45 47),jq 49 (.pick 43 48 kf)] [3,4,5,49] (.cond 49 (js [jm 6 kt] [6] .ret) .skip)) (.seq (.reg (some [[],[],[],[1,2],[],[],[1,2,3,4,5],[0,1,2,3,4,5,6],[0,1,2,3,4,5,6,7]]) [jl 50 3 3,jl 51 3 3,jl 52 6 4,jc 53 83 [51,52],jl 54 3 3,jl 55 6 5,jc 56 117 [54,55],jc 57 116 [50,53,56],jm 6 57] [6]) .ret)))
def rv75:List RV:=[.t 6]
def iL (g:G) (t:TE) (a0:Network) (a1:Scan) (a2:Scan):Option Bool:=
 cl (gf g t a0 (Scan.mk a1.Thing a1.At a1.Kind a1.Place (Trip.mk a1.Trip.Leg a1.Trip.Day))) fun x1=>
 br x1
 (
  cl (gf g t a0 (Scan.mk a2.Thing a2.At a2.Kind a2.Place (Trip.mk a2.Trip.Leg a2.Trip.Day))) fun x2=>
  br x2
  (
   br (g.eq a1.Thing a2.Thing)
   (
    lP (bt g t (Scan.mk a1.Thing a1.At a1.Kind a1.Place (Trip.mk a1.Trip.Leg a1.Trip.Day)) (Scan.mk a2.Thing a2.At a2.Kind a2.Place (Trip.mk a2.Trip.Leg a2.Trip.Day))) fun x3=>
    br (g.le 0 x3)
    (
     some false)
    (
     br (g.eq a1.Kind 4)
     (
      some false)
     (
      br (g.eq a2.Kind 2)
      (
       br (g.eq a1.Kind 3)
       (
        br (g.all [(g.eq a1.Trip.Leg a2.Trip.Leg),(g.eq a1.Trip.Day a2.Trip.Day)])
        (
         some true)
        (
         cl (bE g t a0 (Scan.mk a1.Thing a1.At a1.Kind a1.Place (Trip.mk a1.Trip.Leg a1.Trip.Day))) fun x4=>
         cl (bC g t a0 (Scan.mk a2.Thing a2.At a2.Kind a2.Place (Trip.mk a2.Trip.Leg a2.Trip.Day))) fun x5=>
         cl (fJ g t a0 x4 x5) fun x6=>
         some x6))
       (
        cl (bE g t a0 (Scan.mk a1.Thing a1.At a1.Kind a1.Place (Trip.mk a1.Trip.Leg a1.Trip.Day))) fun x7=>
        cl (bC g t a0 (Scan.mk a2.Thing a2.At a2.Kind a2.Place (Trip.mk a2.Trip.Leg a2.Trip.Day))) fun x8=>
        cl (fJ g t a0 x7 x8) fun x9=>
        some x9))
      (
       cl (bE g t a0 (Scan.mk a1.Thing a1.At a1.Kind a1.Place (Trip.mk a1.Trip.Leg a1.Trip.Day))) fun x10=>
       cl (bC g t a0 (Scan.mk a2.Thing a2.At a2.Kind a2.Place (Trip.mk a2.Trip.Leg a2.Trip.Day))) fun x11=>
       cl (fJ g t a0 x10 x11) fun x12=>
       some x12))))
   (
    some false))
  (
   some false))
 (
  some false)
theorem s6 {g:G} {t:TE} {a0:Network} {a1:Scan} {a2:Scan} {r:Bool} (hg:g=G.real) (ht:t=TE.real) (h:iL g t a0 a1 a2=some r):Fn Tryz.prog 75 [.g (Network.rs t a0),.g (Scan.rs t a1),.g (Scan.rs t a2)] (.c (.r (.v (.bool r)))):=by
 obtain⟨X,hX⟩:=aE (.c (.r (.v (.bool r))):X);rw[←hX];refine au (rvs:=rv75) (j:=ir75) Tryz.func75 rfl (by kernel_rfl) (nb rfl) (by kernel_rfl) ae ?_;intro g2 F hg2 hF;obtain rfl:g2=g:=hg2.unique.trans hg.symm;clear hg2;obtain⟨_,_,le,eq,_,_,_,_,_,_,_,_,_,_,_,_,_,_,_,_,_,_,_,_,_,_,_,_,_,_,_,_,_,all⟩:=g2;obtain⟨_⟩:=t
 obtain⟨a0_Legs,a0_Off,a0_Change⟩:=a0;obtain⟨a1_Thing,a1_At,a1_Kind,a1_Place,⟨a1_Trip_Leg,a1_Trip_Day⟩⟩:=a1;obtain⟨a2_Thing,a2_At,a2_Kind,a2_Place,⟨a2_Trip_Leg,a2_Trip_Day⟩⟩:=a2;unfold iL at h;try dsimp only at h
 cbv;obtain⟨x1,hx1,h⟩:=ac h;try dsimp only at h
 refine ACall.mk _ _ rfl (hF _ _ _ (hO hg ht hx1)) (.inl rfl) (nb rfl) ?_;cbv
 cases hb1:x1
 ·rw[aa hb1] at h;cbv;iterate 4 try(rw[hb1];cbv)
  obtain rfl:=Option.some.inj h;exact ARet.mk trivial hX.symm
 rw[ab hb1] at h;cbv;iterate 2 try(rw[hb1];cbv)
 obtain⟨x2,hx2,h⟩:=ac h;try dsimp only at h
 refine ACall.mk _ _ rfl (hF _ _ _ (hO hg ht hx2)) (.inl rfl) (nb rfl) ?_;cbv;iterate 2 try(rw[hb1];cbv)
 cases hb2:x2
 ·rw[aa hb2] at h;cbv;iterate 5 try(rw[hb2];cbv)
  obtain rfl:=Option.some.inj h;exact ARet.mk trivial hX.symm
 rw[ab hb2] at h;cbv;iterate 5 try(rw[hb2];cbv)
 cases hb3:(eq a1_Thing a2_Thing)
 ·rw[aa hb3] at h;cbv;iterate 4 try(rw[hb3];cbv)
  obtain rfl:=Option.some.inj h;exact ARet.mk trivial hX.symm
 rw[ab hb3] at h;cbv;iterate 2 try(rw[hb3];cbv)
 obtain⟨x3,hx3,h⟩:=ak h;try dsimp only at h
 refine ACall.mk _ _ rfl (hF _ _ _ (kN hg ht hx3)) (.inl rfl) (nb rfl) ?_;cbv;iterate 2 try(rw[hb3];cbv)
 cases hb4:(le 0 x3)
 rotate_left
 ·rw[ab hb4] at h;cbv;iterate 3 try(rw[hb4];cbv)
  obtain rfl:=Option.some.inj h;exact ARet.mk trivial hX.symm
 rw[aa hb4] at h;cbv;iterate 3 try(rw[hb4];cbv)
 cases hb5:(eq a1_Kind 4)
 rotate_left
 ·rw[ab hb5] at h;cbv;obtain rfl:=Option.some.inj h;exact ARet.mk trivial hX.symm
 rw[aa hb5] at h;cbv
 cases hb6:(eq a2_Kind 2)
 ·rw[aa hb6] at h;cbv;iterate 3 try(rw[hb6];cbv)
  obtain⟨x10,hx10,h⟩:=ac h;obtain⟨x10_Place,x10_At⟩:=x10;try dsimp only at h
  refine ACall.mk _ _ rfl (hF _ _ _ (cv hg ht hx10)) (.inl rfl) (nb rfl) ?_;cbv;obtain⟨x11,hx11,h⟩:=ac h;obtain⟨x11_Place,x11_At⟩:=x11;try dsimp only at h
  refine ACall.mk _ _ rfl (hF _ _ _ (cw hg ht hx11)) (.inl rfl) (nb rfl) ?_;cbv;obtain⟨x12,hx12,h⟩:=ac h;try dsimp only at h
  refine ACall.mk _ _ rfl (hF _ _ _ (kA hg ht hx12)) (.inl rfl) (nb rfl) ?_;cbv;obtain rfl:=Option.some.inj h;exact ARet.mk trivial hX.symm
 rw[ab hb6] at h;cbv;iterate 3 try(rw[hb6];cbv)
 cases hb7:(eq a1_Kind 3)
 ·rw[aa hb7] at h;cbv;iterate 5 try(rw[hb7];cbv)
  obtain⟨x7,hx7,h⟩:=ac h;obtain⟨x7_Place,x7_At⟩:=x7;try dsimp only at h
  refine ACall.mk _ _ rfl (hF _ _ _ (cv hg ht hx7)) (.inl rfl) (nb rfl) ?_;cbv;obtain⟨x8,hx8,h⟩:=ac h;obtain⟨x8_Place,x8_At⟩:=x8;try dsimp only at h
  refine ACall.mk _ _ rfl (hF _ _ _ (cw hg ht hx8)) (.inl rfl) (nb rfl) ?_;cbv;obtain⟨x9,hx9,h⟩:=ac h;try dsimp only at h
  refine ACall.mk _ _ rfl (hF _ _ _ (kA hg ht hx9)) (.inl rfl) (nb rfl) ?_;cbv;obtain rfl:=Option.some.inj h;exact ARet.mk trivial hX.symm
 rw[ab hb7] at h;cbv;iterate 5 try(rw[hb7];cbv)
 cases hb8:(all [(eq a1_Trip_Leg a2_Trip_Leg),(eq a1_Trip_Day a2_Trip_Day)])
 rotate_left
 ·rw[ab hb8] at h;cbv;obtain rfl:=Option.some.inj h;exact ARet.mk trivial hX.symm
 rw[aa hb8] at h;cbv;obtain⟨x4,hx4,h⟩:=ac h;obtain⟨x4_Place,x4_At⟩:=x4;try dsimp only at h
 refine ACall.mk _ _ rfl (hF _ _ _ (cv hg ht hx4)) (.inl rfl) (nb rfl) ?_;cbv;obtain⟨x5,hx5,h⟩:=ac h;obtain⟨x5_Place,x5_At⟩:=x5;try dsimp only at h
 refine ACall.mk _ _ rfl (hF _ _ _ (cw hg ht hx5)) (.inl rfl) (nb rfl) ?_;cbv;obtain⟨x6,hx6,h⟩:=ac h;try dsimp only at h
 refine ACall.mk _ _ rfl (hF _ _ _ (kA hg ht hx6)) (.inl rfl) (nb rfl) ?_;cbv;obtain rfl:=Option.some.inj h;exact ARet.mk trivial hX.symm
def ir34:J:=js [jq 3 (.box 0),jq 6 (.mv (.k (.c (.n 6))))] [1,2,3] (js [jq 10 (.bsl 6 []),jm 7 10] [1,2,3,7] (.seq (js [jl 11 3 3,jm 12 1,jm 13 2,jc 14 27 [11,12,13],jq 15 (.len false 14),jm 16 (ki 0)] [3,7,14,15,16] (.bl 0 (js [jb 17 .lss .i 16 15] [3,7,14,15,16,17] (.seq (.cond 17 .skip (.exit 0)) (.seq (.block 1 (js [ja 18 6 14 16,jl 19 6 18,jq 9 (.alloc [.r (.v (.int .i64 0)),.r (.v (.int .i64 0)),.r (.v (.int .i64 0)),.r (.v (.string .empty)),.r (.v (.int .i64 0)),.r (.v (.int .i64 0))]),jp (.st 6 9 19)] [3,7,9,14,15,16] (.seq (.reg (some [[],[0],[0,1],[0,1,2],[0,1,2,3],[0,1,2,3],[0,1,2,3],[0,1,2,3,6],[0,1,2,3,6,7],[0,1,2,3,5,6,7,8],[0,1,2,3,5,6,7,8,9],[0,1,2,3],[0,1,2,3,4,5,6,7,8,9,10,11],[0,1,2,3,4,5,6,7,8,9,10,11,12]]) [jm 20 7,jq 21 (.len false 20),jb 22 .eql .i 21 (ki 0),jm 23 22,jv 24 23 (.ld true 3 3),jv 25 23 (.mv 7),jv 26 23 (.mv 7),jv 27 23 (.len false 26),jv 28 23 (.bin .sub .i 27 (ki 1)),jv 29 23 (.ia 6 25 28),jv 30 23 (.ld true 6 29),jv 31 23 (.ld true 6 9),jv 32 23 (.call 75 true [24,30,31]),jq 33 (.pick 23 kt 32)] [3,7,9,14,15,16,33]) (.cond 33 (.reg none [jm 34 7,jl 35 6 9,jq 36 (.bsl 6 [35]),jq 37 (.app 6 56 true 34 36),jm 7 37] [3,7,14,15,16]) .skip)))) (.reg none [jb 38 .add .i 16 (ki 1),jm 16 38] [3,7,14,15,16])))))) (js [jm 39 7,jm 6 39] [6] .ret)))
def rv34:List RV:=[.t 6]
def cR (g:G) (t:TE) (a0:Network) (x1:List Scan):Nat→Int→List Scan→Option (List Scan)
 |0,v1,w1=>
  some w1
 |n1+1,v1,w1=>
  gt x1 (g.nat v1) fun x2=>
  br (g.eq (g.int (g.dlen (t.d_Scan w1))) 0)
  (
   lP ([(Scan.mk x2.Thing x2.At x2.Kind x2.Place (Trip.mk x2.Trip.Leg x2.Trip.Day))]) fun(l2:List Scan)=>
   gd (((w1.length+l2.length)*56≤70368744177664))<|
   lP (w1++l2) fun(l3:List Scan)=>
   cR g t a0 x1 n1 (g.wrap .i64 (g.add v1 1)) l3)
  (
   gd (((0:Int)≤(g.wrap .i64 (g.sub (g.int (g.dlen (t.d_Scan w1))) 1))∧(g.wrap .i64 (g.sub (g.int (g.dlen (t.d_Scan w1))) 1))<(((g.dlen (t.d_Scan w1)):Nat):Int)))<|
   gt w1 (g.nat (g.wrap .i64 (g.sub (g.int (g.dlen (t.d_Scan w1))) 1))) fun x3=>
   cl (iL g t a0 (Scan.mk x3.Thing x3.At x3.Kind x3.Place (Trip.mk x3.Trip.Leg x3.Trip.Day)) (Scan.mk x2.Thing x2.At x2.Kind x2.Place (Trip.mk x2.Trip.Leg x2.Trip.Day))) fun x4=>
   br x4
   (
    lP ([(Scan.mk x2.Thing x2.At x2.Kind x2.Place (Trip.mk x2.Trip.Leg x2.Trip.Day))]) fun(l4:List Scan)=>
    gd (((w1.length+l4.length)*56≤70368744177664))<|
    lP (w1++l4) fun(l5:List Scan)=>
    cR g t a0 x1 n1 (g.wrap .i64 (g.add v1 1)) l5)
   (
    cR g t a0 x1 n1 (g.wrap .i64 (g.add v1 1)) w1))
def jh (g:G) (t:TE) (a0:Network) (a1:List Scan) (a2:Int):Option (List Scan):=
 lP ([]) fun(l1:List Scan)=>
 cl (jw g t a0 a1 a2) fun x1=>
 gd (((g.int (g.dlen (t.d_Scan x1)))≤9223372036854775807))<|
 cl (cR g t a0 x1 (aq 0 (g.int (g.dlen (t.d_Scan x1)))) 0 l1) fun y1=>
 some y1
theorem qq {g:G} {t:TE} {a0:Network} {a1:List Scan} {a2:Int} {r:List Scan} (hg:g=G.real) (ht:t=TE.real) (h:jh g t a0 a1 a2=some r):Fn Tryz.prog 34 [.g (Network.rs t a0),.c (.s 6 (t.r_Scan a1)),.c (.v (.int .i64 a2))] (.c (.o 6 (t.d_Scan r))):=by
 obtain⟨X,hX⟩:=aE (.c (.o 6 (t.d_Scan r)):X);rw[←hX];refine au (rvs:=rv34) (j:=ir34) Tryz.func34 rfl (by kernel_rfl) (nb rfl) (by kernel_rfl) ae ?_;intro g2 F hg2 hF;obtain rfl:g2=g:=hg2.unique.trans hg.symm;clear hg2;obtain⟨wrap,lt,_,eq,_,_,_,_,_,_,_,_,int,add,_,_,_,_,_,_,_,_,_,_,dlen⟩:=g2;obtain⟨r_Leg,_,r_I64,_,_,d_Scan⟩:=t
 obtain⟨a0_Legs,a0_Off,a0_Change⟩:=a0;unfold jh at h;try dsimp only at h
 cbv;obtain⟨l1,hl1,h⟩:=ak h;try dsimp only at h
 refine ANew.mk (d_Scan l1) (dlen (d_Scan l1)) (by rw[←hl1];exact bX hg ht []) (by rw[←hl1];exact bn hg ht []) ?_;cbv;obtain⟨x1,hx1,h⟩:=ac h;try dsimp only at h
 refine ACall.mk _ _ rfl (hF _ _ _ (xA hg ht hx1)) (.inl rfl) (nb rfl) ?_;cbv;obtain⟨hB1,h⟩:=ah h;obtain⟨o1,ho1,h⟩:=ac h;try dsimp only at h
 try rw[hg] at ho1
 try rw[ht] at ho1
 refine ABL.mk {p:Nat×Int×List Scan//p.1=aq p.2.1 (int (dlen (d_Scan x1)))∧0≤p.2.1∧cR G.real TE.real (Network.mk a0_Legs a0_Off a0_Change) x1 p.1 p.2.1 p.2.2=some o1} (fun⟨⟨n1,v1,w1⟩,_⟩=>({sl:=[(3,.c (.p 0 3 0 0)),(7,.c (.f 1 6 0 (dlen (d_Scan w1)))),(14,.c (.f 2 6 0 (dlen (d_Scan x1)))),(15,.c (.r (.v (.int .i64 (int (dlen (d_Scan x1))))))),(16,.c (.r (.v (.int .i64 v1))))],tab:=[(0,some (.foc 3 [] [.r (.s 6 (r_Leg a0_Legs)),.r (.s 1 (r_I64 a0_Off)),.r (.v (.int .i64 a0_Change))] [])),(1,some (.arr 6 (d_Scan w1))),(2,some (.arr 6 (d_Scan x1)))]}:St)) 3 (fun p=>p.1.1) ⟨(aq 0 (int (dlen (d_Scan x1))),0,l1),rfl,Int.le_refl _,ho1⟩ (List Scan) (fun y1=>({sl:=[(7,.c (.f 0 6 0 (dlen (d_Scan y1))))],tab:=[(0,some (.arr 6 (d_Scan y1)))]}:St)) 1 (fun y=>o1=y) ?_ ?_ ?_
 ·refine Wk.of [(0,some 0),(1,some 32),(2,some 112)] rfl rfl ?_ ?_
  ·cbv;all_goals exact⟨⟨_,rfl,rfl⟩,⟨_,rfl,rfl⟩,⟨_,rfl,rfl⟩,⟨_,rfl,rfl⟩,⟨_,rfl,rfl⟩,trivial⟩
  cbv;all_goals exact⟨⟨_,rfl,_,rfl,rfl,rfl,rfl,trivial⟩,⟨_,rfl,rfl⟩,⟨_,rfl,rfl⟩,trivial⟩
 ·rintro⟨⟨n1,v1,w1⟩,hn1,hi1,h_1⟩ hq1;try dsimp only at hn1 hi1 h_1
  clear hq1;cbv;rcases n1 with _|n1
  ·have hb1:lt v1 (int (dlen (d_Scan x1)))=false:=be hg hn1;rw[cR] at h_1;try rw[←hg] at h_1
   try rw[←ht] at h_1
   try dsimp only at h_1
   rw[hb1];cbv;refine⟨w1,Wk.of [(0,some 1)] rfl rfl ?_ ?_,(Option.some.inj h_1).symm⟩
   ·cbv;all_goals exact⟨⟨_,rfl,rfl⟩,trivial⟩
   cbv;all_goals exact⟨⟨_,rfl,rfl⟩,trivial⟩
  have hb1:lt v1 (int (dlen (d_Scan x1)))=true:=bF hg hn1;have hl1:=dM hn1;have hs1:=cF hg hn1 hi1 hB1 (by decide);rw[cR] at h_1;try rw[←hg] at h_1
  try rw[←ht] at h_1
  try dsimp only at h_1
  rw[hb1];cbv;refine AStep.mk (dB hg hi1 hl1) ?_;cbv;obtain⟨x2,hx2,h_1⟩:=aB h_1;obtain⟨x2_Thing,x2_At,x2_Kind,x2_Place,⟨x2_Trip_Leg,x2_Trip_Day⟩⟩:=x2;try dsimp only at h_1
  refine AGet.mk _ (aG hg ht hx2) ?_;cbv
  cases hb2:(eq (int (dlen (d_Scan w1))) 0)
  rotate_left
  ·rw[ab hb2] at h_1;cbv;iterate 9 try(rw[hb2];cbv)
   obtain⟨l2,hl2,h_1⟩:=ak h_1;try dsimp only at h_1
   refine ANew.mk (d_Scan l2) (dlen (d_Scan l2)) (by rw[←hl2];exact bX hg ht [(Scan.mk x2_Thing x2_At x2_Kind x2_Place (Trip.mk x2_Trip_Leg x2_Trip_Day))]) (by rw[←hl2];exact bn hg ht [(Scan.mk x2_Thing x2_At x2_Kind x2_Place (Trip.mk x2_Trip_Leg x2_Trip_Day))]) ?_;cbv;obtain⟨hc1,h_1⟩:=ah h_1;refine AStep.mk ⟨⟨rfl,(aj hg ht _)⟩,(bq hg ht (aj hg ht _) rfl hc1)⟩ ?_;cbv;obtain⟨l3,hl3,h_1⟩:=ak h_1;try dsimp only at h_1
   refine ANew.mk (d_Scan l3) (dlen (d_Scan l3)) (by rw[←hl3];exact dF hg ht (aj hg ht _) rfl) (by rw[←hl3];exact cG hg ht (aj hg ht _) rfl) ?_;cbv;try rw[hg] at h_1
   try rw[ht] at h_1
   refine⟨⟨(n1,(wrap .i64 (add v1 1)),l3),hs1.1,hs1.2,h_1⟩,Wk.of [(0,some 0),(1,some 355),(2,some 2)] rfl rfl ?_ ?_,Nat.lt_succ_self _⟩
   ·cbv;all_goals exact⟨⟨_,rfl,rfl⟩,⟨_,rfl,rfl⟩,⟨_,rfl,rfl⟩,⟨_,rfl,rfl⟩,⟨_,rfl,rfl⟩,trivial⟩
   cbv;all_goals exact⟨⟨_,rfl,_,rfl,rfl,rfl,rfl,trivial⟩,⟨_,rfl,rfl⟩,⟨_,rfl,rfl⟩,trivial⟩
  rw[aa hb2] at h_1;cbv;iterate 5 try(rw[hb2];cbv)
  obtain⟨hc2,h_1⟩:=ah h_1;refine AStep.mk hc2 ?_;cbv;try(rw[hb2];cbv)
  obtain⟨x3,hx3,h_1⟩:=aB h_1;obtain⟨x3_Thing,x3_At,x3_Kind,x3_Place,⟨x3_Trip_Leg,x3_Trip_Day⟩⟩:=x3;try dsimp only at h_1
  refine AGet.mk _ (aG hg ht hx3) ?_;cbv;iterate 2 try(rw[hb2];cbv)
  obtain⟨x4,hx4,h_1⟩:=ac h_1;try dsimp only at h_1
  refine ACall.mk _ _ rfl (hF _ _ _ (s6 hg ht hx4)) (.inl rfl) (nb rfl) ?_;cbv;try(rw[hb2];cbv)
  cases hb3:x4
  ·rw[aa hb3] at h_1;cbv;try rw[hg] at h_1
   try rw[ht] at h_1
   refine⟨⟨(n1,(wrap .i64 (add v1 1)),w1),hs1.1,hs1.2,h_1⟩,Wk.of [(0,some 0),(1,some 1),(2,some 2)] rfl rfl ?_ ?_,Nat.lt_succ_self _⟩
   ·cbv;all_goals exact⟨⟨_,rfl,rfl⟩,⟨_,rfl,rfl⟩,⟨_,rfl,rfl⟩,⟨_,rfl,rfl⟩,⟨_,rfl,rfl⟩,trivial⟩
   cbv;all_goals exact⟨⟨_,rfl,_,rfl,rfl,rfl,rfl,trivial⟩,⟨_,rfl,rfl⟩,⟨_,rfl,rfl⟩,trivial⟩
  rw[ab hb3] at h_1;cbv;obtain⟨l4,hl4,h_1⟩:=ak h_1;try dsimp only at h_1
  refine ANew.mk (d_Scan l4) (dlen (d_Scan l4)) (by rw[←hl4];exact bX hg ht [(Scan.mk x2_Thing x2_At x2_Kind x2_Place (Trip.mk x2_Trip_Leg x2_Trip_Day))]) (by rw[←hl4];exact bn hg ht [(Scan.mk x2_Thing x2_At x2_Kind x2_Place (Trip.mk x2_Trip_Leg x2_Trip_Day))]) ?_;cbv;obtain⟨hc3,h_1⟩:=ah h_1;refine AStep.mk ⟨⟨rfl,(aj hg ht _)⟩,(bq hg ht (aj hg ht _) rfl hc3)⟩ ?_;cbv;obtain⟨l5,hl5,h_1⟩:=ak h_1;try dsimp only at h_1
  refine ANew.mk (d_Scan l5) (dlen (d_Scan l5)) (by rw[←hl5];exact dF hg ht (aj hg ht _) rfl) (by rw[←hl5];exact cG hg ht (aj hg ht _) rfl) ?_;cbv;try rw[hg] at h_1
  try rw[ht] at h_1
  refine⟨⟨(n1,(wrap .i64 (add v1 1)),l5),hs1.1,hs1.2,h_1⟩,Wk.of [(0,some 0),(1,some 355),(2,some 2)] rfl rfl ?_ ?_,Nat.lt_succ_self _⟩
  ·cbv;all_goals exact⟨⟨_,rfl,rfl⟩,⟨_,rfl,rfl⟩,⟨_,rfl,rfl⟩,⟨_,rfl,rfl⟩,⟨_,rfl,rfl⟩,trivial⟩
  cbv;all_goals exact⟨⟨_,rfl,_,rfl,rfl,rfl,rfl,trivial⟩,⟨_,rfl,rfl⟩,⟨_,rfl,rfl⟩,trivial⟩
 rintro y1 hy1;replace hy1:=hy1.symm;subst hy1;try dsimp only[lr,lrL,lrp,aP] at h
 cbv;obtain rfl:=Option.some.inj h;exact ARet.mk ⟨rfl,(aj hg ht _)⟩ hX.symm
def ir36:J:=js [jq 4 (.box 0),jq 8 (.alloc [.r (.v (.int .i64 0)),.r (.v (.int .i64 0)),.r (.v (.int .i64 0)),.r (.v (.string .empty)),.r (.v (.int .i64 0)),.r (.v (.int .i64 0))]),jm 9 kf] [1,2,3,4,8] (js [jl 12 3 4,jm 13 1,jm 14 2,jc 15 34 [12,13,14],jm 10 15] [3,8,10] (.seq (js [jm 16 10,jq 17 (.len false 16),jb 18 .sub .i 17 (ki 1),jm 11 18] [3,8,10,11] (.bl 0 (.seq (js [jm 19 11,jb 20 .geq .i 19 (ki 0)] [3,8,10,11,20] (.cond 20 .skip (.exit 0))) (.seq (.block 1 (js [jm 23 10,jm 24 11,ja 25 6 23 24,jf 26 1 25,jk 27 26,jm 28 3,jb 29 .leq .i 27 28] [3,8,10,11,29] (.cond 29 (js [jm 30 10,jm 31 11,ja 32 6 30 31,jl 33 6 32,jp (.st 6 8 33),jm 9 kt] [8,9] .ret) .skip))) (.reg none [jm 21 11,jb 22 .sub .i 21 (ki 1),jm 11 22] [3,8,10,11]))))) (js [jq 34 (.bld [.r (.v (.int .i64 0)),.r (.v (.int .i64 0)),.r (.v (.int .i64 0)),.r (.v (.string .empty)),.r (.v (.int .i64 0)),.r (.v (.int .i64 0))] []),jp (.st 6 8 34),jm 9 kf] [8,9] .ret)))
def rv36:List RV:=[.c 8 true 6,.t 9]
def bL (g:G) (t:TE) (a3:Int) (x1:List Scan):Nat→Int→Option (LR (Scan×Bool) Unit)
 |0,_=>none
 |n1+1,v1=>
  br (g.le 0 v1)
  (
   gd (((0:Int)≤v1∧v1<(((g.dlen (t.d_Scan x1)):Nat):Int)))<|
   gt x1 (g.nat v1) fun x2=>
   br (g.le x2.At a3)
   (
    gd (((0:Int)≤v1∧v1<(((g.dlen (t.d_Scan x1)):Nat):Int)))<|
    some (LR.ret (((Scan.mk x2.Thing x2.At x2.Kind x2.Place (Trip.mk x2.Trip.Leg x2.Trip.Day)),true))))
   (
    bL g t a3 x1 n1 (g.wrap .i64 (g.sub v1 1))))
  (
   some (LR.out ()))
def im (g:G) (t:TE) (a0:Network) (a1:List Scan) (a2:Int) (a3:Int):Option (Scan×Bool):=
 cl (jh g t a0 a1 a2) fun x1=>
 cl (bL g t a3 x1 1000000000 (g.wrap .i64 (g.sub (g.int (g.dlen (t.d_Scan x1))) 1))) fun o1=>lr o1 fun y1=>
 some (((Scan.mk 0 0 0 ByteArray.empty (Trip.mk 0 0)),false))
theorem uF {g:G} {t:TE} {a0:Network} {a1:List Scan} {a2:Int} {a3:Int} {r:Scan×Bool} (hg:g=G.real) (ht:t=TE.real) (h:im g t a0 a1 a2 a3=some r):Fn Tryz.prog 36 [.g (Network.rs t a0),.c (.s 6 (t.r_Scan a1)),.c (.v (.int .i64 a2)),.c (.v (.int .i64 a3))] (.u [.g (Scan.ds t r.1),.c (.r (.v (.bool r.2)))]):=by
 obtain⟨X,hX⟩:=aE (.u [.g (Scan.ds t r.1),.c (.r (.v (.bool r.2)))]:X);rw[←hX];refine au (rvs:=rv36) (j:=ir36) Tryz.func36 rfl (by kernel_rfl) (nb rfl) (by kernel_rfl) ae ?_;intro g2 F hg2 hF;obtain rfl:g2=g:=hg2.unique.trans hg.symm;clear hg2;obtain⟨wrap,_,le,_,_,_,_,_,_,_,_,_,int,_,sub,_,_,_,_,_,_,_,_,_,dlen⟩:=g2;obtain⟨_,_,_,_,_,d_Scan⟩:=t
 obtain⟨a0_Legs,a0_Off,a0_Change⟩:=a0;unfold im at h;try dsimp only at h
 cbv;obtain⟨x1,hx1,h⟩:=ac h;try dsimp only at h
 refine ACall.mk _ _ rfl (hF _ _ _ (qq hg ht hx1)) (.inl rfl) (nb rfl) ?_;cbv;obtain⟨o1,ho1,h⟩:=ac h;try dsimp only at h
 try rw[hg] at ho1
 try rw[ht] at ho1
 refine ABL.mk {p:Nat×Int//bL G.real TE.real a3 x1 p.1 p.2=some o1} (fun⟨⟨n1,v1⟩,_⟩=>({sl:=[(3,.c (.r (.v (.int .i64 a3)))),(8,.c (.p 0 6 0 0)),(10,.c (.f 1 6 0 (dlen (d_Scan x1)))),(11,.c (.r (.v (.int .i64 v1))))],tab:=[(0,some (.foc 6 [] [.r (.v (.int .i64 0)),.r (.v (.int .i64 0)),.r (.v (.int .i64 0)),.r (.v (.string ByteArray.empty)),.r (.v (.int .i64 0)),.r (.v (.int .i64 0))] [])),(1,some (.arr 6 (d_Scan x1)))]}:St)) 2 (fun p=>p.1.1) ⟨(1000000000,(wrap .i64 (sub (int (dlen (d_Scan x1))) 1))),ho1⟩ (Unit) (fun _=>({sl:=[(8,.c (.p 0 6 0 0))],tab:=[(0,some (.foc 6 [] [.r (.v (.int .i64 0)),.r (.v (.int .i64 0)),.r (.v (.int .i64 0)),.r (.v (.string ByteArray.empty)),.r (.v (.int .i64 0)),.r (.v (.int .i64 0))] []))]}:St)) 1 (fun y=>o1=LR.out y) ?_ ?_ ?_
 ·refine Wk.of [(0,some 16),(1,some 96)] rfl rfl ?_ ?_
  ·cbv;all_goals exact⟨⟨_,rfl,rfl⟩,⟨_,rfl,rfl⟩,⟨_,rfl,rfl⟩,⟨_,rfl,rfl⟩,trivial⟩
  cbv;all_goals exact⟨⟨_,rfl,_,rfl,rfl,rfl,rfl,rfl,rfl,rfl,trivial⟩,⟨_,rfl,rfl⟩,trivial⟩
 ·rintro⟨⟨n1,v1⟩,h_1⟩ hq1;try dsimp only at h_1
  clear hq1;rcases n1 with _|n1
  ·rw[bL] at h_1;cases h_1
  rw[bL] at h_1;try rw[←hg] at h_1
  try rw[←ht] at h_1
  try dsimp only at h_1
  cbv
  cases hb1:(le 0 v1)
  ·rw[aa hb1] at h_1;cbv;refine⟨(),Wk.of [(0,some 0)] rfl rfl ?_ ?_,(Option.some.inj h_1).symm⟩
   ·cbv;all_goals exact⟨⟨_,rfl,rfl⟩,trivial⟩
   cbv;all_goals exact⟨⟨_,rfl,_,rfl,rfl,rfl,rfl,rfl,rfl,rfl,trivial⟩,trivial⟩
  rw[ab hb1] at h_1;cbv;obtain⟨hc1,h_1⟩:=ah h_1;refine AStep.mk hc1 ?_;cbv;obtain⟨x2,hx2,h_1⟩:=aB h_1;obtain⟨x2_Thing,x2_At,x2_Kind,x2_Place,⟨x2_Trip_Leg,x2_Trip_Day⟩⟩:=x2;try dsimp only at h_1
  refine AGet.mk _ (aG hg ht hx2) ?_;cbv
  cases hb2:(le x2_At a3)
  rotate_left
  ·rw[ab hb2] at h_1;cbv;obtain⟨hc2,h_1⟩:=ah h_1;refine AStep.mk hc2 ?_;cbv;refine AGet.mk _ (aG hg ht hx2) ?_;cbv;obtain rfl:=Option.some.inj h_1;try dsimp only[lr,lrL,lrp,aP] at h
   obtain rfl:=Option.some.inj h;exact ARet.mk trivial hX.symm
  rw[aa hb2] at h_1;cbv;try rw[hg] at h_1
  try rw[ht] at h_1
  refine⟨⟨(n1,(wrap .i64 (sub v1 1))),h_1⟩,Wk.of [(0,some 0),(1,some 1)] rfl rfl ?_ ?_,Nat.lt_succ_self _⟩
  ·cbv;all_goals exact⟨⟨_,rfl,rfl⟩,⟨_,rfl,rfl⟩,⟨_,rfl,rfl⟩,⟨_,rfl,rfl⟩,trivial⟩
  cbv;all_goals exact⟨⟨_,rfl,_,rfl,rfl,rfl,rfl,rfl,rfl,rfl,trivial⟩,⟨_,rfl,rfl⟩,trivial⟩
 rintro _ hy1;replace hy1:=hy1.symm;subst hy1;try dsimp only[lr,lrL,lrp,aP] at h
 cbv;obtain rfl:=Option.some.inj h;exact ARet.mk trivial hX.symm
def ir39:J:=js [jq 4 (.box 0),jq 8 (.alloc [.r (.v (.int .i64 0)),.r (.v (.int .i64 0)),.r (.v (.int .i64 0)),.r (.v (.string .empty)),.r (.v (.int .i64 0)),.r (.v (.int .i64 0))]),jm 9 kf] [1,2,3,4,8] (.seq (js [jl 12 3 4,jm 13 1,jm 14 2,jc 15 34 [12,13,14],jq 16 (.len false 15),jm 17 (ki 0)] [3,8,15,16,17] (.bl 0 (js [jb 18 .lss .i 17 16] [3,8,15,16,17,18] (.seq (.cond 18 .skip (.exit 0)) (.seq (.block 1 (js [ja 19 6 15 17,jl 20 6 19,jq 11 (.alloc [.r (.v (.int .i64 0)),.r (.v (.int .i64 0)),.r (.v (.int .i64 0)),.r (.v (.string .empty)),.r (.v (.int .i64 0)),.r (.v (.int .i64 0))]),jp (.st 6 11 20)] [3,8,11,15,16,17] (js [jf 21 1 11,jk 22 21,jm 23 3,jb 24 .gtr .i 22 23] [3,8,11,15,16,17,24] (.cond 24 (js [jl 25 6 11,jp (.st 6 8 25),jm 9 kt] [8,9] .ret) .skip)))) (.reg none [jb 26 .add .i 17 (ki 1),jm 17 26] [3,8,15,16,17])))))) (js [jq 27 (.bld [.r (.v (.int .i64 0)),.r (.v (.int .i64 0)),.r (.v (.int .i64 0)),.r (.v (.string .empty)),.r (.v (.int .i64 0)),.r (.v (.int .i64 0))] []),jp (.st 6 8 27),jm 9 kf] [8,9] .ret))
def rv39:List RV:=[.c 8 true 6,.t 9]
def bM (g:G) (t:TE) (a3:Int) (x1:List Scan):Nat→Int→Option (LR (Scan×Bool) Unit)
 |0,v1=>
  some (LR.out ())
 |n1+1,v1=>
  gt x1 (g.nat v1) fun x2=>
  br (g.lt a3 x2.At)
  (
   some (LR.ret (((Scan.mk x2.Thing x2.At x2.Kind x2.Place (Trip.mk x2.Trip.Leg x2.Trip.Day)),true))))
  (
   bM g t a3 x1 n1 (g.wrap .i64 (g.add v1 1)))
def hL (g:G) (t:TE) (a0:Network) (a1:List Scan) (a2:Int) (a3:Int):Option (Scan×Bool):=
 cl (jh g t a0 a1 a2) fun x1=>
 gd (((g.int (g.dlen (t.d_Scan x1)))≤9223372036854775807))<|
 cl (bM g t a3 x1 (aq 0 (g.int (g.dlen (t.d_Scan x1)))) 0) fun o1=>lr o1 fun y1=>
 some (((Scan.mk 0 0 0 ByteArray.empty (Trip.mk 0 0)),false))
theorem vq {g:G} {t:TE} {a0:Network} {a1:List Scan} {a2:Int} {a3:Int} {r:Scan×Bool} (hg:g=G.real) (ht:t=TE.real) (h:hL g t a0 a1 a2 a3=some r):Fn Tryz.prog 39 [.g (Network.rs t a0),.c (.s 6 (t.r_Scan a1)),.c (.v (.int .i64 a2)),.c (.v (.int .i64 a3))] (.u [.g (Scan.ds t r.1),.c (.r (.v (.bool r.2)))]):=by
 obtain⟨X,hX⟩:=aE (.u [.g (Scan.ds t r.1),.c (.r (.v (.bool r.2)))]:X);rw[←hX];refine au (rvs:=rv39) (j:=ir39) Tryz.func39 rfl (by kernel_rfl) (nb rfl) (by kernel_rfl) ae ?_;intro g2 F hg2 hF;obtain rfl:g2=g:=hg2.unique.trans hg.symm;clear hg2;obtain⟨wrap,lt,_,_,_,_,_,_,_,_,_,_,int,add,_,_,_,_,_,_,_,_,_,_,dlen⟩:=g2;obtain⟨_,_,_,_,_,d_Scan⟩:=t
 obtain⟨a0_Legs,a0_Off,a0_Change⟩:=a0;unfold hL at h;try dsimp only at h
 cbv;obtain⟨x1,hx1,h⟩:=ac h;try dsimp only at h
 refine ACall.mk _ _ rfl (hF _ _ _ (qq hg ht hx1)) (.inl rfl) (nb rfl) ?_;cbv;obtain⟨hB1,h⟩:=ah h;obtain⟨o1,ho1,h⟩:=ac h;try dsimp only at h
 try rw[hg] at ho1
 try rw[ht] at ho1
 refine ABL.mk {p:Nat×Int//p.1=aq p.2 (int (dlen (d_Scan x1)))∧0≤p.2∧bM G.real TE.real a3 x1 p.1 p.2=some o1} (fun⟨⟨n1,v1⟩,_⟩=>({sl:=[(3,.c (.r (.v (.int .i64 a3)))),(8,.c (.p 0 6 0 0)),(15,.c (.f 1 6 0 (dlen (d_Scan x1)))),(16,.c (.r (.v (.int .i64 (int (dlen (d_Scan x1))))))),(17,.c (.r (.v (.int .i64 v1))))],tab:=[(0,some (.foc 6 [] [.r (.v (.int .i64 0)),.r (.v (.int .i64 0)),.r (.v (.int .i64 0)),.r (.v (.string ByteArray.empty)),.r (.v (.int .i64 0)),.r (.v (.int .i64 0))] [])),(1,some (.arr 6 (d_Scan x1)))]}:St)) 2 (fun p=>p.1.1) ⟨(aq 0 (int (dlen (d_Scan x1))),0),rfl,Int.le_refl _,ho1⟩ (Unit) (fun _=>({sl:=[(8,.c (.p 0 6 0 0))],tab:=[(0,some (.foc 6 [] [.r (.v (.int .i64 0)),.r (.v (.int .i64 0)),.r (.v (.int .i64 0)),.r (.v (.string ByteArray.empty)),.r (.v (.int .i64 0)),.r (.v (.int .i64 0))] []))]}:St)) 1 (fun y=>o1=LR.out y) ?_ ?_ ?_
 ·refine Wk.of [(0,some 16),(1,some 96)] rfl rfl ?_ ?_
  ·cbv;all_goals exact⟨⟨_,rfl,rfl⟩,⟨_,rfl,rfl⟩,⟨_,rfl,rfl⟩,⟨_,rfl,rfl⟩,⟨_,rfl,rfl⟩,trivial⟩
  cbv;all_goals exact⟨⟨_,rfl,_,rfl,rfl,rfl,rfl,rfl,rfl,rfl,trivial⟩,⟨_,rfl,rfl⟩,trivial⟩
 ·rintro⟨⟨n1,v1⟩,hn1,hi1,h_1⟩ hq1;try dsimp only at hn1 hi1 h_1
  clear hq1;cbv;rcases n1 with _|n1
  ·have hb1:lt v1 (int (dlen (d_Scan x1)))=false:=be hg hn1;rw[bM] at h_1;try rw[←hg] at h_1
   try rw[←ht] at h_1
   try dsimp only at h_1
   rw[hb1];cbv;refine⟨(),Wk.of [(0,some 0)] rfl rfl ?_ ?_,(Option.some.inj h_1).symm⟩
   ·cbv;all_goals exact⟨⟨_,rfl,rfl⟩,trivial⟩
   cbv;all_goals exact⟨⟨_,rfl,_,rfl,rfl,rfl,rfl,rfl,rfl,rfl,trivial⟩,trivial⟩
  have hb1:lt v1 (int (dlen (d_Scan x1)))=true:=bF hg hn1;have hl1:=dM hn1;have hs1:=cF hg hn1 hi1 hB1 (by decide);rw[bM] at h_1;try rw[←hg] at h_1
  try rw[←ht] at h_1
  try dsimp only at h_1
  rw[hb1];cbv;refine AStep.mk (dB hg hi1 hl1) ?_;cbv;obtain⟨x2,hx2,h_1⟩:=aB h_1;obtain⟨x2_Thing,x2_At,x2_Kind,x2_Place,⟨x2_Trip_Leg,x2_Trip_Day⟩⟩:=x2;try dsimp only at h_1
  refine AGet.mk _ (aG hg ht hx2) ?_;cbv
  cases hb2:(lt a3 x2_At)
  rotate_left
  ·rw[ab hb2] at h_1;cbv;obtain rfl:=Option.some.inj h_1;try dsimp only[lr,lrL,lrp,aP] at h
   obtain rfl:=Option.some.inj h;exact ARet.mk trivial hX.symm
  rw[aa hb2] at h_1;cbv;try rw[hg] at h_1
  try rw[ht] at h_1
  refine⟨⟨(n1,(wrap .i64 (add v1 1))),hs1.1,hs1.2,h_1⟩,Wk.of [(0,some 0),(1,some 1)] rfl rfl ?_ ?_,Nat.lt_succ_self _⟩
  ·cbv;all_goals exact⟨⟨_,rfl,rfl⟩,⟨_,rfl,rfl⟩,⟨_,rfl,rfl⟩,⟨_,rfl,rfl⟩,⟨_,rfl,rfl⟩,trivial⟩
  cbv;all_goals exact⟨⟨_,rfl,_,rfl,rfl,rfl,rfl,rfl,rfl,rfl,trivial⟩,⟨_,rfl,rfl⟩,trivial⟩
 rintro _ hy1;replace hy1:=hy1.symm;subst hy1;try dsimp only[lr,lrL,lrp,aP] at h
 cbv;obtain rfl:=Option.some.inj h;exact ARet.mk trivial hX.symm
def ir89:J:=js [jq 4 (.box 0),jq 8 (.alloc [.n 6,.n 1,.r (.v (.int .i64 0)),.r (.v (.int .i64 0)),.r (.v (.bool false)),.r (.v (.string .empty)),.r (.v (.int .i64 0)),.r (.v (.int .i64 0)),.r (.v (.bool false)),.r (.v (.bool false)),.r (.v (.string .empty)),.r (.v (.int .i64 0)),.r (.v (.string .empty)),.r (.v (.int .i64 0)),.r (.v (.bool false))])] [1,2,3,4,8] (js [jl 14 3 4,jm 15 3,jq 16 (.bld [.n 6,.n 1,.r (.v (.int .i64 0)),.r (.v (.int .i64 0)),.r (.v (.bool false)),.r (.v (.string .empty)),.r (.v (.int .i64 0)),.r (.v (.int .i64 0)),.r (.v (.bool false)),.r (.v (.bool false)),.r (.v (.string .empty)),.r (.v (.int .i64 0)),.r (.v (.string .empty)),.r (.v (.int .i64 0)),.r (.v (.bool false))] [(0,3,14),(3,1,15)]),jq 9 (.alloc [.n 6,.n 1,.r (.v (.int .i64 0)),.r (.v (.int .i64 0)),.r (.v (.bool false)),.r (.v (.string .empty)),.r (.v (.int .i64 0)),.r (.v (.int .i64 0)),.r (.v (.bool false)),.r (.v (.bool false)),.r (.v (.string .empty)),.r (.v (.int .i64 0)),.r (.v (.string .empty)),.r (.v (.int .i64 0)),.r (.v (.bool false))]),jp (.st 15 9 16)] [1,2,3,4,8,9] (js [jl 18 3 4,jm 19 1,jm 20 2,jm 21 3,jc 22 36 [18,19,20,21],jm 17 22,jq 23 (.ext 0 17),jq 24 (.ext 1 17),jq 10 (.alloc [.r (.v (.int .i64 0)),.r (.v (.int .i64 0)),.r (.v (.int .i64 0)),.r (.v (.string .empty)),.r (.v (.int .i64 0)),.r (.v (.int .i64 0))]),jp (.st 6 10 23),jm 11 24] [1,2,3,4,8,9,10,11] (js [jl 26 3 4,jm 27 1,jm 28 2,jm 29 3,jc 30 39 [26,27,28,29],jm 25 30,jq 31 (.ext 0 25),jq 32 (.ext 1 25),jq 12 (.alloc [.r (.v (.int .i64 0)),.r (.v (.int .i64 0)),.r (.v (.int .i64 0)),.r (.v (.string .empty)),.r (.v (.int .i64 0)),.r (.v (.int .i64 0))]),jp (.st 6 12 31),jm 13 32] [3,4,8,9,10,11,12,13] (.seq (.block 0 (js [jm 45 11,jq 46 (.not 45),jm 47 46,jv 48 47 (.fa 2 10),jv 49 47 (.ld false 1 48),jv 50 47 (.bin .eql .i 49 (ki 4)),jq 51 (.pick 47 kt 50),jm 44 51] [3,4,8,9,10,12,13,44] (.cond 44 (js [jl 52 15 9,jp (.st 15 8 52)] [8] .ret) (js [jm 54 13,jm 55 54,ju 56 55 (.fa 2 12),ju 57 55 (.ld false 1 56),ju 58 55 (.bin .eql .i 57 (ki 2)),jq 59 (.pick 55 58 kf),jm 60 59,ju 61 60 (.ld true 3 4),ju 62 60 (.fa 4 12),ju 63 60 (.ld true 2 62),ju 64 60 (.call 105 true [61,63]),ju 65 60 (.mv 3),ju 66 60 (.bin .leq .i 64 65),jq 67 (.pick 60 66 kf),jm 53 67] [3,4,8,9,10,12,13,53] (.cond 53 (js [jf 68 4 9,jp (.st 1 68 kt)] [3,4,8,9,12] (js [jm 69 3,jl 70 3 4,jf 71 4 12,jl 72 2 71,jc 73 106 [70,72],jb 74 .lss .i 69 73,jf 75 8 9,jp (.st 1 75 74)] [4,8,9,12] (js [jf 76 4 12,jl 77 2 76,jf 78 6 9,jp (.st 2 78 77)] [4,8,9,12] (.reg none [jf 79 0 4,jk 80 79,jf 81 4 12,jf 82 0 81,jk 83 82,ja 84 6 80 83,jf 85 1 84,jk 86 85,jf 87 5 9,jp (.st 1 87 86)] [8,9])))) (js [jf 89 2 10,jk 90 89,jb 91 .eql .i 90 (ki 3),jm 92 91,ju 93 92 (.ld true 3 4),ju 94 92 (.fa 4 10),ju 95 92 (.ld true 2 94),ju 96 92 (.call 106 true [93,
 95]),ju 97 92 (.mv 3),ju 98 92 (.bin .gtr .i 96 97),jq 99 (.pick 92 98 kf),jm 88 99] [3,4,8,9,10,12,13,88] (.cond 88 (js [jf 100 4 9,jp (.st 1 100 kt)] [3,4,8,9,10] (js [jl 101 3 4,jf 102 4 10,jl 103 2 102,jc 104 105 [101,103],jm 105 3,jb 106 .leq .i 104 105,jf 107 8 9,jp (.st 1 107 106)] [4,8,9,10] (js [jf 108 4 10,jl 109 2 108,jf 110 6 9,jp (.st 2 110 109)] [4,8,9,10] (.reg none [jf 111 0 4,jk 112 111,jf 113 4 10,jf 114 0 113,jk 115 114,ja 116 6 112 115,jf 117 0 116,jk 118 117,jf 119 5 9,jp (.st 1 119 118)] [8,9])))) (js [jf 33 9 9,jp (.st 1 33 kt)] [4,8,9,10,12,13] (js [jl 34 3 4,jl 35 6 10,jc 36 83 [34,35],jf 37 10 9,jp (.st 2 37 36)] [4,8,9,12,13] (js [jm 38 13,jf 39 14 9,jp (.st 1 39 38)] [4,8,9,12] (.reg none [jl 40 3 4,jl 41 6 12,jc 42 117 [40,41],jf 43 12 9,jp (.st 2 43 42)] [8,9]))))))))))) (js [jl 120 15 9,jp (.st 15 8 120)] [8] .ret)))))
def rv89:List RV:=[.c 8 true 15]
def jA (g:G) (t:TE) (a0:Network) (a1:List Scan) (a2:Int) (a3:Int):Option Know:=
 cl (im g t a0 a1 a2 a3) fun x1=>
 cl (hL g t a0 a1 a2 a3) fun x2=>
 br x1.2
 (
  br (g.eq x1.1.Kind 4)
  (
   some (Know.mk a0 a3 false ByteArray.empty (Trip.mk 0 0) false false (Spot.mk ByteArray.empty 0) (Spot.mk ByteArray.empty 0) false))
  (
   br x2.2
   (
    br (g.eq x2.1.Kind 2)
    (
     cl (da g t a0 (Trip.mk x2.1.Trip.Leg x2.1.Trip.Day)) fun x3=>
     br (g.le x3 a3)
     (
      cl (f9 g t a0 (Trip.mk x2.1.Trip.Leg x2.1.Trip.Day)) fun x4=>
      gd (((0:Int)≤x2.1.Trip.Leg))<|
      gt a0.Legs (g.nat x2.1.Trip.Leg) fun x5=>
      some (Know.mk a0 a3 true x5.To (Trip.mk x2.1.Trip.Leg x2.1.Trip.Day) (g.lt a3 x4) false (Spot.mk ByteArray.empty 0) (Spot.mk ByteArray.empty 0) false))
     (
      br (g.eq x1.1.Kind 3)
      (
       cl (f9 g t a0 (Trip.mk x1.1.Trip.Leg x1.1.Trip.Day)) fun x6=>
       br (g.lt a3 x6)
       (
        cl (da g t a0 (Trip.mk x1.1.Trip.Leg x1.1.Trip.Day)) fun x7=>
        gd (((0:Int)≤x1.1.Trip.Leg))<|
        gt a0.Legs (g.nat x1.1.Trip.Leg) fun x8=>
        some (Know.mk a0 a3 true x8.From (Trip.mk x1.1.Trip.Leg x1.1.Trip.Day) (g.le x7 a3) false (Spot.mk ByteArray.empty 0) (Spot.mk ByteArray.empty 0) false))
       (
        cl (bE g t a0 (Scan.mk x1.1.Thing x1.1.At x1.1.Kind x1.1.Place (Trip.mk x1.1.Trip.Leg x1.1.Trip.Day))) fun x9=>
        cl (bC g t a0 (Scan.mk x2.1.Thing x2.1.At x2.1.Kind x2.1.Place (Trip.mk x2.1.Trip.Leg x2.1.Trip.Day))) fun x10=>
        some (Know.mk a0 a3 false ByteArray.empty (Trip.mk 0 0) false true x9 x10 x2.2)))
      (
       cl (bE g t a0 (Scan.mk x1.1.Thing x1.1.At x1.1.Kind x1.1.Place (Trip.mk x1.1.Trip.Leg x1.1.Trip.Day))) fun x11=>
       cl (bC g t a0 (Scan.mk x2.1.Thing x2.1.At x2.1.Kind x2.1.Place (Trip.mk x2.1.Trip.Leg x2.1.Trip.Day))) fun x12=>
       some (Know.mk a0 a3 false ByteArray.empty (Trip.mk 0 0) false true x11 x12 x2.2))))
    (
     br (g.eq x1.1.Kind 3)
     (
      cl (f9 g t a0 (Trip.mk x1.1.Trip.Leg x1.1.Trip.Day)) fun x13=>
      br (g.lt a3 x13)
      (
       cl (da g t a0 (Trip.mk x1.1.Trip.Leg x1.1.Trip.Day)) fun x14=>
       gd (((0:Int)≤x1.1.Trip.Leg))<|
       gt a0.Legs (g.nat x1.1.Trip.Leg) fun x15=>
       some (Know.mk a0 a3 true x15.From (Trip.mk x1.1.Trip.Leg x1.1.Trip.Day) (g.le x14 a3) false (Spot.mk ByteArray.empty 0) (Spot.mk ByteArray.empty 0) false))
      (
       cl (bE g t a0 (Scan.mk x1.1.Thing x1.1.At x1.1.Kind x1.1.Place (Trip.mk x1.1.Trip.Leg x1.1.Trip.Day))) fun x16=>
       cl (bC g t a0 (Scan.mk x2.1.Thing x2.1.At x2.1.Kind x2.1.Place (Trip.mk x2.1.Trip.Leg x2.1.Trip.Day))) fun x17=>
       some (Know.mk a0 a3 false ByteArray.empty (Trip.mk 0 0) false true x16 x17 x2.2)))
     (
      cl (bE g t a0 (Scan.mk x1.1.Thing x1.1.At x1.1.Kind x1.1.Place (Trip.mk x1.1.Trip.Leg x1.1.Trip.Day))) fun x18=>
      cl (bC g t a0 (Scan.mk x2.1.Thing x2.1.At x2.1.Kind x2.1.Place (Trip.mk x2.1.Trip.Leg x2.1.Trip.Day))) fun x19=>
      some (Know.mk a0 a3 false ByteArray.empty (Trip.mk 0 0) false true x18 x19 x2.2))))
   (
    br (g.eq x1.1.Kind 3)
    (
     cl (f9 g t a0 (Trip.mk x1.1.Trip.Leg x1.1.Trip.Day)) fun x20=>
     br (g.lt a3 x20)
     (
      cl (da g t a0 (Trip.mk x1.1.Trip.Leg x1.1.Trip.Day)) fun x21=>
      gd (((0:Int)≤x1.1.Trip.Leg))<|
      gt a0.Legs (g.nat x1.1.Trip.Leg) fun x22=>
      some (Know.mk a0 a3 true x22.From (Trip.mk x1.1.Trip.Leg x1.1.Trip.Day) (g.le x21 a3) false (Spot.mk ByteArray.empty 0) (Spot.mk ByteArray.empty 0) false))
     (
      cl (bE g t a0 (Scan.mk x1.1.Thing x1.1.At x1.1.Kind x1.1.Place (Trip.mk x1.1.Trip.Leg x1.1.Trip.Day))) fun x23=>
      cl (bC g t a0 (Scan.mk x2.1.Thing x2.1.At x2.1.Kind x2.1.Place (Trip.mk x2.1.Trip.Leg x2.1.Trip.Day))) fun x24=>
      some (Know.mk a0 a3 false ByteArray.empty (Trip.mk 0 0) false true x23 x24 x2.2)))
    (
     cl (bE g t a0 (Scan.mk x1.1.Thing x1.1.At x1.1.Kind x1.1.Place (Trip.mk x1.1.Trip.Leg x1.1.Trip.Day))) fun x25=>
     cl (bC g t a0 (Scan.mk x2.1.Thing x2.1.At x2.1.Kind x2.1.Place (Trip.mk x2.1.Trip.Leg x2.1.Trip.Day))) fun x26=>
     some (Know.mk a0 a3 false ByteArray.empty (Trip.mk 0 0) false true x25 x26 x2.2)))))
 (
  some (Know.mk a0 a3 false ByteArray.empty (Trip.mk 0 0) false false (Spot.mk ByteArray.empty 0) (Spot.mk ByteArray.empty 0) false))
theorem pX {g:G} {t:TE} {a0:Network} {a1:List Scan} {a2:Int} {a3:Int} {r:Know} (hg:g=G.real) (ht:t=TE.real) (h:jA g t a0 a1 a2 a3=some r):Fn Tryz.prog 89 [.g (Network.rs t a0),.c (.s 6 (t.r_Scan a1)),.c (.v (.int .i64 a2)),.c (.v (.int .i64 a3))] (.g (Know.ds t r)):=by
 obtain⟨X,hX⟩:=aE (.g (Know.ds t r):X);rw[←hX];refine au (rvs:=rv89) (j:=ir89) Tryz.func89 rfl (by kernel_rfl) (nb rfl) (by kernel_rfl) ae ?_;intro g2 F hg2 hF;obtain rfl:g2=g:=hg2.unique.trans hg.symm;clear hg2;obtain⟨_,lt,le,eq⟩:=g2;obtain⟨_⟩:=t
 obtain⟨a0_Legs,a0_Off,a0_Change⟩:=a0;unfold jA at h;try dsimp only at h
 cbv;obtain⟨x1,hx1,h⟩:=ac h;obtain⟨⟨x1_1_Thing,x1_1_At,x1_1_Kind,x1_1_Place,⟨x1_1_Trip_Leg,x1_1_Trip_Day⟩⟩,x1_2⟩:=x1;try dsimp only at h
 refine ACall.mk _ _ rfl (hF _ _ _ (uF hg ht hx1)) (.inl rfl) (nb rfl) ?_;cbv;obtain⟨x2,hx2,h⟩:=ac h;obtain⟨⟨x2_1_Thing,x2_1_At,x2_1_Kind,x2_1_Place,⟨x2_1_Trip_Leg,x2_1_Trip_Day⟩⟩,x2_2⟩:=x2;try dsimp only at h
 refine ACall.mk _ _ rfl (hF _ _ _ (vq hg ht hx2)) (.inl rfl) (nb rfl) ?_;cbv;have hb1:x1_2=true∨x1_2=false:=by cases x1_2<;>simp
 rcases hb1 with hb1|hb1
 ·rw[ab hb1] at h;have hK_:=h;subst hb1;have h:=hK_;clear hK_;cbv;iterate 3 try(rw[hb1];cbv)
  cases hb2:(eq x1_1_Kind 4)
  rotate_left
  ·rw[ab hb2] at h;cbv;obtain rfl:=Option.some.inj h;exact ARet.mk trivial hX.symm
  rw[aa hb2] at h;cbv;have hb3:x2_2=true∨x2_2=false:=by cases x2_2<;>simp
  rcases hb3 with hb3|hb3
  ·rw[ab hb3] at h;have hK_:=h;subst hb3;have h:=hK_;clear hK_;cbv;iterate 3 try(rw[hb3];cbv)
   cases hb4:(eq x2_1_Kind 2)
   ·rw[aa hb4] at h;cbv;iterate 6 try(rw[hb4];cbv)
    cases hb8:(eq x1_1_Kind 3)
    ·rw[aa hb8] at h;cbv;iterate 6 try(rw[hb8];cbv)
     obtain⟨x18,hx18,h⟩:=ac h;obtain⟨x18_Place,x18_At⟩:=x18;try dsimp only at h
     refine ACall.mk _ _ rfl (hF _ _ _ (cv hg ht hx18)) (.inl rfl) (nb rfl) ?_;cbv;obtain⟨x19,hx19,h⟩:=ac h;obtain⟨x19_Place,x19_At⟩:=x19;try dsimp only at h
     refine ACall.mk _ _ rfl (hF _ _ _ (cw hg ht hx19)) (.inl rfl) (nb rfl) ?_;cbv;obtain rfl:=Option.some.inj h;exact ARet.mk trivial hX.symm
    rw[ab hb8] at h;cbv;iterate 3 try(rw[hb8];cbv)
    obtain⟨x13,hx13,h⟩:=ac h;try dsimp only at h
    refine ACall.mk _ _ rfl (hF _ _ _ (fE hg ht hx13)) (.inl rfl) (nb rfl) ?_;cbv;iterate 3 try(rw[hb8];cbv)
    cases hb9:(lt a3 x13)
    ·rw[aa hb9] at h;cbv;obtain⟨x16,hx16,h⟩:=ac h;obtain⟨x16_Place,x16_At⟩:=x16;try dsimp only at h
     refine ACall.mk _ _ rfl (hF _ _ _ (cv hg ht hx16)) (.inl rfl) (nb rfl) ?_;cbv;obtain⟨x17,hx17,h⟩:=ac h;obtain⟨x17_Place,x17_At⟩:=x17;try dsimp only at h
     refine ACall.mk _ _ rfl (hF _ _ _ (cw hg ht hx17)) (.inl rfl) (nb rfl) ?_;cbv;obtain rfl:=Option.some.inj h;exact ARet.mk trivial hX.symm
    rw[ab hb9] at h;cbv;obtain⟨x14,hx14,h⟩:=ac h;try dsimp only at h
    refine ACall.mk _ _ rfl (hF _ _ _ (dJ hg ht hx14)) (.inl rfl) (nb rfl) ?_;cbv;obtain⟨hc3,h⟩:=ah h;refine AStep.mk hc3 ?_;cbv;obtain⟨x15,hx15,h⟩:=aB h;obtain⟨x15_From,x15_To,x15_Start,x15_Takes,x15_Days,x15_Room⟩:=x15;try dsimp only at h
    refine AGet.mk _ (ax hg ht hx15) ?_;cbv;obtain rfl:=Option.some.inj h;exact ARet.mk trivial hX.symm
   rw[ab hb4] at h;cbv;iterate 3 try(rw[hb4];cbv)
   obtain⟨x3,hx3,h⟩:=ac h;try dsimp only at h
   refine ACall.mk _ _ rfl (hF _ _ _ (dJ hg ht hx3)) (.inl rfl) (nb rfl) ?_;cbv;iterate 3 try(rw[hb4];cbv)
   cases hb5:(le x3 a3)
   rotate_left
   ·rw[ab hb5] at h;cbv;obtain⟨x4,hx4,h⟩:=ac h;try dsimp only at h
    refine ACall.mk _ _ rfl (hF _ _ _ (fE hg ht hx4)) (.inl rfl) (nb rfl) ?_;cbv;obtain⟨hc1,h⟩:=ah h;refine AStep.mk hc1 ?_;cbv;obtain⟨x5,hx5,h⟩:=aB h;obtain⟨x5_From,x5_To,x5_Start,x5_Takes,x5_Days,x5_Room⟩:=x5;try dsimp only at h
    refine AGet.mk _ (ax hg ht hx5) ?_;cbv;obtain rfl:=Option.some.inj h;exact ARet.mk trivial hX.symm
   rw[aa hb5] at h;cbv
   cases hb6:(eq x1_1_Kind 3)
   ·rw[aa hb6] at h;cbv;iterate 6 try(rw[hb6];cbv)
    obtain⟨x11,hx11,h⟩:=ac h;obtain⟨x11_Place,x11_At⟩:=x11;try dsimp only at h
    refine ACall.mk _ _ rfl (hF _ _ _ (cv hg ht hx11)) (.inl rfl) (nb rfl) ?_;cbv;obtain⟨x12,hx12,h⟩:=ac h;obtain⟨x12_Place,x12_At⟩:=x12;try dsimp only at h
    refine ACall.mk _ _ rfl (hF _ _ _ (cw hg ht hx12)) (.inl rfl) (nb rfl) ?_;cbv;obtain rfl:=Option.some.inj h;exact ARet.mk trivial hX.symm
   rw[ab hb6] at h;cbv;iterate 3 try(rw[hb6];cbv)
   obtain⟨x6,hx6,h⟩:=ac h;try dsimp only at h
   refine ACall.mk _ _ rfl (hF _ _ _ (fE hg ht hx6)) (.inl rfl) (nb rfl) ?_;cbv;iterate 3 try(rw[hb6];cbv)
   cases hb7:(lt a3 x6)
   ·rw[aa hb7] at h;cbv;obtain⟨x9,hx9,h⟩:=ac h;obtain⟨x9_Place,x9_At⟩:=x9;try dsimp only at h
    refine ACall.mk _ _ rfl (hF _ _ _ (cv hg ht hx9)) (.inl rfl) (nb rfl) ?_;cbv;obtain⟨x10,hx10,h⟩:=ac h;obtain⟨x10_Place,x10_At⟩:=x10;try dsimp only at h
    refine ACall.mk _ _ rfl (hF _ _ _ (cw hg ht hx10)) (.inl rfl) (nb rfl) ?_;cbv;obtain rfl:=Option.some.inj h;exact ARet.mk trivial hX.symm
   rw[ab hb7] at h;cbv;obtain⟨x7,hx7,h⟩:=ac h;try dsimp only at h
   refine ACall.mk _ _ rfl (hF _ _ _ (dJ hg ht hx7)) (.inl rfl) (nb rfl) ?_;cbv;obtain⟨hc2,h⟩:=ah h;refine AStep.mk hc2 ?_;cbv;obtain⟨x8,hx8,h⟩:=aB h;obtain⟨x8_From,x8_To,x8_Start,x8_Takes,x8_Days,x8_Room⟩:=x8;try dsimp only at h
   refine AGet.mk _ (ax hg ht hx8) ?_;cbv;obtain rfl:=Option.some.inj h;exact ARet.mk trivial hX.symm
  rw[aa hb3] at h;have hK_:=h;subst hb3;have h:=hK_;clear hK_;cbv;iterate 3 try(rw[hb3];cbv)
  cases hb10:(eq x1_1_Kind 3)
  ·rw[aa hb10] at h;cbv;iterate 6 try(rw[hb10];cbv)
   obtain⟨x25,hx25,h⟩:=ac h;obtain⟨x25_Place,x25_At⟩:=x25;try dsimp only at h
   refine ACall.mk _ _ rfl (hF _ _ _ (cv hg ht hx25)) (.inl rfl) (nb rfl) ?_;cbv;obtain⟨x26,hx26,h⟩:=ac h;obtain⟨x26_Place,x26_At⟩:=x26;try dsimp only at h
   refine ACall.mk _ _ rfl (hF _ _ _ (cw hg ht hx26)) (.inl rfl) (nb rfl) ?_;cbv;obtain rfl:=Option.some.inj h;exact ARet.mk trivial hX.symm
  rw[ab hb10] at h;cbv;iterate 3 try(rw[hb10];cbv)
  obtain⟨x20,hx20,h⟩:=ac h;try dsimp only at h
  refine ACall.mk _ _ rfl (hF _ _ _ (fE hg ht hx20)) (.inl rfl) (nb rfl) ?_;cbv;iterate 3 try(rw[hb10];cbv)
  cases hb11:(lt a3 x20)
  ·rw[aa hb11] at h;cbv;obtain⟨x23,hx23,h⟩:=ac h;obtain⟨x23_Place,x23_At⟩:=x23;try dsimp only at h
   refine ACall.mk _ _ rfl (hF _ _ _ (cv hg ht hx23)) (.inl rfl) (nb rfl) ?_;cbv;obtain⟨x24,hx24,h⟩:=ac h;obtain⟨x24_Place,x24_At⟩:=x24;try dsimp only at h
   refine ACall.mk _ _ rfl (hF _ _ _ (cw hg ht hx24)) (.inl rfl) (nb rfl) ?_;cbv;obtain rfl:=Option.some.inj h;exact ARet.mk trivial hX.symm
  rw[ab hb11] at h;cbv;obtain⟨x21,hx21,h⟩:=ac h;try dsimp only at h
  refine ACall.mk _ _ rfl (hF _ _ _ (dJ hg ht hx21)) (.inl rfl) (nb rfl) ?_;cbv;obtain⟨hc4,h⟩:=ah h;refine AStep.mk hc4 ?_;cbv;obtain⟨x22,hx22,h⟩:=aB h;obtain⟨x22_From,x22_To,x22_Start,x22_Takes,x22_Days,x22_Room⟩:=x22;try dsimp only at h
  refine AGet.mk _ (ax hg ht hx22) ?_;cbv;obtain rfl:=Option.some.inj h;exact ARet.mk trivial hX.symm
 rw[aa hb1] at h;have hK_:=h;subst hb1;have h:=hK_;clear hK_;cbv;iterate 3 try(rw[hb1];cbv)
 obtain rfl:=Option.some.inj h;exact ARet.mk trivial hX.symm
def He:J:=js [jq 5 (.box 0),jm 10 kf] [1,2,3,4,5] (.seq (js [jm 12 1,jm 13 3,jb 14 .eql .s 12 13] [1,2,3,4,5,14] (.cond 14 (js [jm 15 2,jm 16 4,jb 17 .leq .i 15 16,jm 10 17] [10] .ret) .skip)) (js [jl 18 3 5,jm 19 1,jm 20 3,jm 21 2,jc 22 122 [18,19,20,21],jm 11 22] [4,11] (js [jm 23 11,jq 24 (.bin .neq .i 23 (.k (V.i (-1)))),jm 25 24,ju 26 25 (.mv 11),ju 27 25 (.mv 4),ju 28 25 (.bin .leq .i 26 27),jq 29 (.pick 25 28 kf),jm 10 29] [10] .ret)))
def G0:List RV:=[.t 10]
def eO (g:G) (t:TE) (a0:Network) (a1:ByteArray) (a2:Int) (a3:ByteArray) (a4:Int):Option Bool:=
 br (g.seq a1 a3)
 (
  some (g.le a2 a4))
 (
  cl (fT g t a0 a1 a3 a2) fun x1=>
  br (g.eq x1 (-1))
  (
   some false)
  (
   some (g.le x1 a4)))
theorem iw {g:G} {t:TE} {a0:Network} {a1:ByteArray} {a2:Int} {a3:ByteArray} {a4:Int} {r:Bool} (hg:g=G.real) (ht:t=TE.real) (h:eO g t a0 a1 a2 a3 a4=some r):Fn Tryz.prog 124 [.g (Network.rs t a0),.c (.v (.string a1)),.c (.v (.int .i64 a2)),.c (.v (.string a3)),.c (.v (.int .i64 a4))] (.c (.r (.v (.bool r)))):=by
 obtain⟨X,hX⟩:=aE (.c (.r (.v (.bool r))):X);rw[←hX];refine au (rvs:=G0) (j:=He) Tryz.func124 rfl (by kernel_rfl) (nb rfl) (by kernel_rfl) ae ?_;intro g2 F hg2 hF;obtain rfl:g2=g:=hg2.unique.trans hg.symm;clear hg2;obtain⟨_,_,_,eq,_,_,_,_,_,_,_,_,_,_,_,_,_,seq⟩:=g2;obtain⟨_⟩:=t
 obtain⟨a0_Legs,a0_Off,a0_Change⟩:=a0;unfold eO at h;try dsimp only at h
 cbv
 cases hb1:(seq a1 a3)
 rotate_left
 ·rw[ab hb1] at h;cbv;obtain rfl:=Option.some.inj h;exact ARet.mk trivial hX.symm
 rw[aa hb1] at h;cbv;obtain⟨x1,hx1,h⟩:=ac h;try dsimp only at h
 refine ACall.mk _ _ rfl (hF _ _ _ (lT hg ht hx1)) (.inl rfl) (nb rfl) ?_;cbv
 cases hb2:(eq x1 (-1))
 rotate_left
 ·rw[ab hb2] at h;cbv;iterate 3 try(rw[hb2];cbv)
  obtain rfl:=Option.some.inj h;exact ARet.mk trivial hX.symm
 rw[aa hb2] at h;cbv;iterate 3 try(rw[hb2];cbv)
 obtain rfl:=Option.some.inj h;exact ARet.mk trivial hX.symm
def ir90:J:=js [jq 2 (.box 0),jm 4 kf] [1,2] (.seq (js [jf 5 4 2,jk 6 5] [1,2,6] (.cond 6 (js [jf 7 8 2,jk 8 7,jq 9 (.not 8),jm 10 9,ju 11 10 (.fa 5 2),ju 12 10 (.ld false 1 11),ju 13 10 (.mv 1),ju 14 10 (.bin .eql .s 12 13),jq 15 (.pick 10 14 kf),jm 4 15] [4] .ret) .skip)) (js [jf 16 9 2,jk 17 16,jm 18 17,ju 19 18 (.fa 0 2),ju 20 18 (.ld true 3 19),ju 21 18 (.fa 10 2),ju 22 18 (.fa 0 21),ju 23 18 (.ld false 1 22),ju 24 18 (.fa 10 2),ju 25 18 (.fa 1 24),ju 26 18 (.ld false 1 25),ju 27 18 (.mv 1),ju 28 18 (.fa 3 2),ju 29 18 (.ld false 1 28),ju 30 18 (.call 124 true [20,23,26,27,29]),jq 31 (.pick 18 30 kf),jm 32 31,ju 33 32 (.fa 14 2),ju 34 32 (.ld false 1 33),ju 35 32 (.not 34),ju 36 32 (.mv 35),jv 37 36 (.fa 0 2),jv 38 36 (.ld true 3 37),jv 39 36 (.mv 1),jv 40 36 (.fa 3 2),jv 41 36 (.ld false 1 40),jv 42 36 (.fa 12 2),jv 43 36 (.fa 0 42),jv 44 36 (.ld false 1 43),jv 45 36 (.fa 12 2),jv 46 36 (.fa 1 45),jv 47 36 (.ld false 1 46),jv 48 36 (.call 124 true [38,39,41,44,47]),ju 49 32 (.pick 36 kt 48),jq 50 (.pick 32 49 kf),jm 4 50] [4] .ret))
def rv90:List RV:=[.t 4]
def av (g:G) (t:TE) (a0:Know) (a1:ByteArray):Option Bool:=
 br a0.known
 (
  br a0.rides
  (
   some false)
  (
   some (g.seq a0.place a1)))
 (
  br a0.free
  (
   cl (eO g t (Network.mk a0.n.Legs a0.n.Off a0.n.Change) a0.from_.Place a0.from_.At a1 a0.at_) fun x1=>
   br x1
   (
    br a0.more
    (
     cl (eO g t (Network.mk a0.n.Legs a0.n.Off a0.n.Change) a1 a0.at_ a0.to.Place a0.to.At) fun x2=>
     some x2)
    (
     some true))
   (
    some false))
  (
   some false))
theorem bV {g:G} {t:TE} {a0:Know} {a1:ByteArray} {r:Bool} (hg:g=G.real) (ht:t=TE.real) (h:av g t a0 a1=some r):Fn Tryz.prog 90 [.g (Know.rs t a0),.c (.v (.string a1))] (.c (.r (.v (.bool r)))):=by
 obtain⟨X,hX⟩:=aE (.c (.r (.v (.bool r))):X);rw[←hX];refine au (rvs:=rv90) (j:=ir90) Tryz.func90 rfl (by kernel_rfl) (nb rfl) (by kernel_rfl) ae ?_;intro g2 F hg2 hF;obtain rfl:g2=g:=hg2.unique.trans hg.symm;clear hg2;obtain⟨_⟩:=g2;obtain⟨_⟩:=t
 obtain⟨⟨a0_n_Legs,a0_n_Off,a0_n_Change⟩,a0_at_,a0_known,a0_place,⟨a0_ride_Leg,a0_ride_Day⟩,a0_rides,a0_free,⟨a0_from__Place,a0_from__At⟩,⟨a0_to_Place,a0_to_At⟩,a0_more⟩:=a0;unfold av at h;try dsimp only at h
 cbv
 cases hb1:a0_known
 rotate_left
 ·rw[ab hb1] at h;cbv
  cases hb2:a0_rides
  rotate_left
  ·rw[ab hb2] at h;cbv;iterate 4 try(rw[hb2];cbv)
   obtain rfl:=Option.some.inj h;exact ARet.mk trivial hX.symm
  rw[aa hb2] at h;cbv;iterate 4 try(rw[hb2];cbv)
  obtain rfl:=Option.some.inj h;exact ARet.mk trivial hX.symm
 rw[aa hb1] at h;cbv
 cases hb3:a0_free
 ·rw[aa hb3] at h;cbv;iterate 12 try(rw[hb3];cbv)
  obtain rfl:=Option.some.inj h;exact ARet.mk trivial hX.symm
 rw[ab hb3] at h;cbv;iterate 11 try(rw[hb3];cbv)
 obtain⟨x1,hx1,h⟩:=ac h;try dsimp only at h
 refine ACall.mk _ _ rfl (hF _ _ _ (iw hg ht hx1)) (.inl rfl) (nb rfl) ?_;cbv;try(rw[hb3];cbv)
 cases hb4:x1
 ·rw[aa hb4] at h;cbv;iterate 5 try(rw[hb4];cbv)
  obtain rfl:=Option.some.inj h;exact ARet.mk trivial hX.symm
 rw[ab hb4] at h;cbv;iterate 3 try(rw[hb4];cbv)
 cases hb5:a0_more
 ·rw[aa hb5] at h;cbv;iterate 11 try(rw[hb5];cbv)
  try(rw[hb4];cbv)
  try(rw[hb5];cbv)
  try(rw[hb4];cbv)
  obtain rfl:=Option.some.inj h;exact ARet.mk trivial hX.symm
 rw[ab hb5] at h;cbv;iterate 11 try(rw[hb5];cbv)
 obtain⟨x2,hx2,h⟩:=ac h;try dsimp only at h
 refine ACall.mk _ _ rfl (hF _ _ _ (iw hg ht hx2)) (.inl rfl) (nb rfl) ?_;cbv;try(rw[hb4];cbv)
 try(rw[hb5];cbv)
 try(rw[hb4];cbv)
 obtain rfl:=Option.some.inj h;exact ARet.mk trivial hX.symm
def ir93:J:=js [jq 2 (.box 0),jq 3 (.box 1),jm 4 kf] [2,3] (.seq (js [jf 6 4 2,jk 7 6] [2,3,7] (.cond 7 (js [jf 8 8 2,jk 9 8,jm 10 9,ju 11 10 (.fa 6 2),ju 12 10 (.ld true 2 11),ju 13 10 (.ld true 2 3),ju 14 10 (.eqs false [.i,.i] 12 13),jq 15 (.pick 10 14 kf),jm 4 15] [4] .ret) .skip)) (js [jf 16 0 2,jf 17 0 16,jk 18 17,jf 19 0 3,jk 20 19,ja 21 6 18 20,jl 22 6 21,jq 5 (.alloc [.r (.v (.string .empty)),.r (.v (.string .empty)),.r (.v (.int .i64 0)),.r (.v (.int .i64 0)),.r (.v (.int .i64 0)),.r (.v (.int .i64 0))]),jp (.st 6 5 22)] [2,3,5] (.seq (.seq (.reg (some [[],[0],[0,1],[0,1,2],[0,1,2,3],[0,1,2,3,4],[0,1,2,3],[0,1,2,3,4,5,6],[0,1,2,3],[0,1,2,3,8],[0,1,2,3,4,5,6,7,8,9],[0,1,2,3,4,5,6,7,8,9,10],[0,1,2,3,4,5,6,7,8,9,10,11],[0,1,2,3,4,5,6,7,8,9,10,11,12],[0,1,2,3,4,5,6,7,8,9,10,11,12,13],[0,1,2,3,4,5,6,7,8,9,10,11,12],[0,1,2,3,4,5,6,7,8,9,10,11,12,13,14,15],[0,1,2,3,4,5,6,7,8,9,10,11,12],[0,1,2,3,4,5,6,7,8,9,10,11,12,17],[0,1,2,3,4,5,6,7,8,9,10,11,12,13,14,15,16,17,18],[0,1,2,3,4,5,6,7,8,9,10,11,12,13,14,15,16,17,18,19],[0,1,2,3,4,5,6,7,8,9,10,11,12,13,14,15,16,17,18,19,20],[0,1,2,3,4,5,6,7,8,9,10,11,12,13,14,15,16,17,18,19,20,21],[0,1,2,3,4,5,6,7,8,9,10,11,12,13,14,15,16,17,18,19,20,21,22],[0,1,2,3,4,5,6,7,8,9,10,11,12,13,14,15,16,17,18,19,20,21],[0,1,2,3,4,5,6,7,8,9,10,11,12,13,14,15,16,17,18,19,20,21,24],[0,1,2,3,4,5,6,7,8,9,10,11,12,13,14,15,16,17,18,19,20,21,24,25],[0,1,2,3,4,5,6,7,8,9,10,11,12,13,14,15,16,17,18,19,20,21],[0,1,2,3,4,5,6,7,8,9,10,11,12,13,14,15,16,17,18,19,20,21,27],[0,1,2,3,4,5,6,7,8,9,10,11,12,13,14,15,16,17,18,19,20,21,27,28],[0,1,2,3,4,5,6,7,8,9,10,11,12,13,14,15,16,17,18,19,20,21],[0,1,2,3,4,5,6,7,8,9,10,11,12,13,14,15,16,17,18,19,20,21,30],[0,1,2,3,4,5,6,7,8,9,10,11,12,13,14,15,16,17,18,19,20,21],[0,1,2,3,4,5,6,7,8,9,10,11,12,13,14,15,16,17,18,19,20,21,32],[0,1,2,3,4,5,6,7,8,9,10,11,12,13,14,15,16,17,18,19,20,21],[0,1,2,3,4,5,6,7,8,9,10,11,12,13,14,15,16,17,18,19,20,21,32,33,34],[0,1,2,3,4,5,6,7,8,9,10,11,12,13,14,15,16,17,18,19,20,21,22,23,24,25,26,27,28,29,30,31,32,33,34,35],[0,1,2,3,4,5,6,7,8,9,10,11,12,13,14,15,16,17,18,19,20,21,22,23,24,25,26,27,28,29,30,31,32,33,34,35,36],[0,1,2,3,4,5,6,7,8,9,10,11,12,13,14,15,16,17,18,19,20,21,22,23,24,25,26,27,28,29,30,31,32,33,34,35,36,37]]) [jf 23 9 2,jk 24 23,jq 25 (.not 24),jm 26 25,jv 27 26 (.fa 0 2),jv 28
 26 (.ld true 3 27),jv 29 26 (.ld true 2 3),jv 30 26 (.call 105 true [28,29]),jv 31 26 (.fa 3 2),jv 32 26 (.ld false 1 31),jv 33 26 (.bin .gtr .i 30 32),jq 34 (.pick 26 kt 33),jm 35 34,jv 36 35 (.fa 0 2),jv 37 35 (.ld true 3 36),jv 38 35 (.ld true 2 3),jv 39 35 (.call 106 true [37,38]),jv 40 35 (.fa 3 2),jv 41 35 (.ld false 1 40),jv 42 35 (.bin .leq .i 39 41),jq 43 (.pick 35 kt 42),jm 44 43,jv 45 44 (.fa 0 2),jv 46 44 (.ld true 3 45),jv 47 44 (.fa 10 2),jv 48 44 (.fa 0 47),jv 49 44 (.ld false 1 48),jv 50 44 (.fa 10 2),jv 51 44 (.fa 1 50),jv 52 44 (.ld false 1 51),jv 53 44 (.fa 0 5),jv 54 44 (.ld false 1 53),jv 55 44 (.fa 0 2),jv 56 44 (.ld true 3 55),jv 57 44 (.ld true 2 3),jv 58 44 (.call 105 true [56,57]),jv 59 44 (.call 124 true [46,49,52,54,58]),jv 60 44 (.not 59),jq 61 (.pick 44 kt 60)] [2,3,5,61]) (.cond 61 (js [jm 4 kf] [4] .ret) .skip)) (.seq (.reg (some [[],[0],[0,1],[0,1,2],[0,1,2,3],[0,1,2,3,4],[0,1,2,3],[0,1,2,3,6],[0,1,2,3],[0,1,2,3,8],[0,1,2,3],[0,1,2,3,8,9,10],[0,1,2,3],[0,1,2,3,12],[0,1,2,3,12,13],[0,1,2,3],[0,1,2,3,15],[0,1,2,3,15,16],[0,1,2,3,4,5,6,7,8,9,10,11,12,13,14,15,16,17],[0,1,2,3,4,5,6,7,8,9,10,11,12,13,14,15,16,17,18],[0,1,2,3,4,5,6,7,8,9,10,11,12,13,14,15,16,17,18,19]]) [jf 62 14 2,jk 63 62,jq 64 (.not 63),jm 65 64,jv 66 65 (.fa 0 2),jv 67 65 (.ld true 3 66),jv 68 65 (.fa 1 5),jv 69 65 (.ld false 1 68),jv 70 65 (.fa 0 2),jv 71 65 (.ld true 3 70),jv 72 65 (.ld true 2 3),jv 73 65 (.call 106 true [71,72]),jv 74 65 (.fa 12 2),jv 75 65 (.fa 0 74),jv 76 65 (.ld false 1 75),jv 77 65 (.fa 12 2),jv 78 65 (.fa 1 77),jv 79 65 (.ld false 1 78),jv 80 65 (.call 124 true [67,69,73,76,79]),jq 81 (.pick 65 kt 80),jm 4 81] [4]) .ret))))
def rv93:List RV:=[.t 4]
def ay (g:G) (t:TE) (a0:Know) (a1:Trip):Option Bool:=
 br a0.known
 (
  br a0.rides
  (
   some (g.all [(g.eq a0.ride.Leg a1.Leg),(g.eq a0.ride.Day a1.Day)]))
  (
   some false))
 (
  gd (((0:Int)≤a1.Leg))<|
  gt a0.n.Legs (g.nat a1.Leg) fun x1=>
  br a0.free
  (
   cl (da g t (Network.mk a0.n.Legs a0.n.Off a0.n.Change) a1) fun x2=>
   br (g.lt a0.at_ x2)
   (
    some false)
   (
    cl (f9 g t (Network.mk a0.n.Legs a0.n.Off a0.n.Change) a1) fun x3=>
    br (g.le x3 a0.at_)
    (
     some false)
    (
     cl (da g t (Network.mk a0.n.Legs a0.n.Off a0.n.Change) a1) fun x4=>
     cl (eO g t (Network.mk a0.n.Legs a0.n.Off a0.n.Change) a0.from_.Place a0.from_.At x1.From x4) fun x5=>
     br x5
     (
      br a0.more
      (
       cl (f9 g t (Network.mk a0.n.Legs a0.n.Off a0.n.Change) a1) fun x6=>
       cl (eO g t (Network.mk a0.n.Legs a0.n.Off a0.n.Change) x1.To x6 a0.to.Place a0.to.At) fun x7=>
       some x7)
      (
       some true))
     (
      some false))))
  (
   some false))
theorem ew {g:G} {t:TE} {a0:Know} {a1:Trip} {r:Bool} (hg:g=G.real) (ht:t=TE.real) (h:ay g t a0 a1=some r):Fn Tryz.prog 93 [.g (Know.rs t a0),.g (Trip.rs t a1)] (.c (.r (.v (.bool r)))):=by
 obtain⟨X,hX⟩:=aE (.c (.r (.v (.bool r))):X);rw[←hX];refine au (rvs:=rv93) (j:=ir93) Tryz.func93 rfl (by kernel_rfl) (nb rfl) (by kernel_rfl) ae ?_;intro g2 F hg2 hF;obtain rfl:g2=g:=hg2.unique.trans hg.symm;clear hg2;obtain⟨_,lt,le⟩:=g2;obtain⟨_⟩:=t
 obtain⟨⟨a0_n_Legs,a0_n_Off,a0_n_Change⟩,a0_at_,a0_known,a0_place,⟨a0_ride_Leg,a0_ride_Day⟩,a0_rides,a0_free,⟨a0_from__Place,a0_from__At⟩,⟨a0_to_Place,a0_to_At⟩,a0_more⟩:=a0;obtain⟨a1_Leg,a1_Day⟩:=a1;unfold ay at h;try dsimp only at h
 cbv
 cases hb1:a0_known
 rotate_left
 ·rw[ab hb1] at h;cbv
  cases hb2:a0_rides
  rotate_left
  ·rw[ab hb2] at h;cbv;iterate 4 try(rw[hb2];cbv)
   obtain rfl:=Option.some.inj h;exact ARet.mk trivial hX.symm
  rw[aa hb2] at h;cbv;iterate 4 try(rw[hb2];cbv)
  obtain rfl:=Option.some.inj h;exact ARet.mk trivial hX.symm
 rw[aa hb1] at h;cbv;obtain⟨hc1,h⟩:=ah h;refine AStep.mk hc1 ?_;cbv;obtain⟨x1,hx1,h⟩:=aB h;obtain⟨x1_From,x1_To,x1_Start,x1_Takes,x1_Days,x1_Room⟩:=x1;try dsimp only at h
 refine AGet.mk _ (ax hg ht hx1) ?_;cbv
 cases hb3:a0_free
 ·rw[aa hb3] at h;cbv;iterate 7 try(rw[hb3];cbv)
  obtain rfl:=Option.some.inj h;exact ARet.mk trivial hX.symm
 rw[ab hb3] at h;cbv;iterate 3 try(rw[hb3];cbv)
 obtain⟨x2,hx2,h⟩:=ac h;try dsimp only at h
 refine ACall.mk _ _ rfl (hF _ _ _ (dJ hg ht hx2)) (.inl rfl) (nb rfl) ?_;cbv;iterate 4 try(rw[hb3];cbv)
 cases hb4:(lt a0_at_ x2)
 rotate_left
 ·rw[ab hb4] at h;cbv;iterate 7 try(rw[hb4];cbv)
  obtain rfl:=Option.some.inj h;exact ARet.mk trivial hX.symm
 rw[aa hb4] at h;cbv;iterate 3 try(rw[hb4];cbv)
 obtain⟨x3,hx3,h⟩:=ac h;try dsimp only at h
 refine ACall.mk _ _ rfl (hF _ _ _ (fE hg ht hx3)) (.inl rfl) (nb rfl) ?_;cbv;iterate 4 try(rw[hb4];cbv)
 cases hb5:(le x3 a0_at_)
 rotate_left
 ·rw[ab hb5] at h;cbv;iterate 16 try(rw[hb5];cbv)
  obtain rfl:=Option.some.inj h;exact ARet.mk trivial hX.symm
 rw[aa hb5] at h;cbv;iterate 13 try(rw[hb5];cbv)
 obtain⟨x4,hx4,h⟩:=ac h;try dsimp only at h
 refine ACall.mk _ _ rfl (hF _ _ _ (dJ hg ht hx4)) (.inl rfl) (nb rfl) ?_;cbv;try(rw[hb5];cbv)
 obtain⟨x5,hx5,h⟩:=ac h;try dsimp only at h
 refine ACall.mk _ _ rfl (hF _ _ _ (iw hg ht hx5)) (.inl rfl) (nb rfl) ?_;cbv;iterate 2 try(rw[hb5];cbv)
 cases hb6:x5
 ·rw[aa hb6] at h;cbv;obtain rfl:=Option.some.inj h;exact ARet.mk trivial hX.symm
 rw[ab hb6] at h;cbv
 cases hb7:a0_more
 ·rw[aa hb7] at h;cbv;iterate 15 try(rw[hb7];cbv)
  obtain rfl:=Option.some.inj h;exact ARet.mk trivial hX.symm
 rw[ab hb7] at h;cbv;iterate 7 try(rw[hb7];cbv)
 obtain⟨x6,hx6,h⟩:=ac h;try dsimp only at h
 refine ACall.mk _ _ rfl (hF _ _ _ (fE hg ht hx6)) (.inl rfl) (nb rfl) ?_;cbv;iterate 7 try(rw[hb7];cbv)
 obtain⟨x7,hx7,h⟩:=ac h;try dsimp only at h
 refine ACall.mk _ _ rfl (hF _ _ _ (iw hg ht hx7)) (.inl rfl) (nb rfl) ?_;cbv;try(rw[hb7];cbv)
 obtain rfl:=Option.some.inj h;exact ARet.mk trivial hX.symm
def ir48:J:=js [jq 4 (.box 0),jq 8 (.alloc [.n 1,.n 2])] [1,2,3,4,8] (js [jq 16 (.bld [.n 1,.n 2] []),jq 9 (.alloc [.n 1,.n 2]),jp (.st 2 9 16)] [1,2,3,4,8,9] (.seq (js [jl 17 3 4,jc 18 88 [17],jq 19 (.not 18)] [1,2,3,4,8,9,19] (.cond 19 (js [jl 20 2 9,jp (.st 2 8 20)] [8] .ret) .skip)) (js [jl 21 3 4,jm 22 1,jm 23 2,jm 24 3,jc 25 89 [21,22,23,24],jq 10 (.alloc [.n 6,.n 1,.r (.v (.int .i64 0)),.r (.v (.int .i64 0)),.r (.v (.bool false)),.r (.v (.string .empty)),.r (.v (.int .i64 0)),.r (.v (.int .i64 0)),.r (.v (.bool false)),.r (.v (.bool false)),.r (.v (.string .empty)),.r (.v (.int .i64 0)),.r (.v (.string .empty)),.r (.v (.int .i64 0)),.r (.v (.bool false))]),jp (.st 15 10 25)] [4,8,9,10] (.seq (js [jl 26 3 4,jc 27 82 [26],jq 28 (.len false 27),jm 29 (ki 0)] [4,8,9,10,27,28,29] (.bl 0 (js [jb 30 .lss .i 29 28] [4,8,9,10,27,28,29,30] (.seq (.cond 30 .skip (.exit 0)) (.seq (.block 1 (js [ja 31 1 27 29,jk 32 31,jm 12 32] [4,8,9,10,12,27,28,29] (js [jl 33 15 10,jm 34 12,jc 35 90 [33,34]] [4,8,9,10,12,27,28,29,35] (.cond 35 (.reg none [jf 36 0 9,jk 37 36,jm 38 12,jq 39 (.bsl 1 [38]),jq 40 (.app 1 16 true 37 39),jf 41 0 9,jp (.st 1 41 40)] [4,8,9,10,27,28,29]) .skip)))) (.reg none [jb 42 .add .i 29 (ki 1),jm 29 42] [4,8,9,10,27,28,29])))))) (.seq (js [jm 13 (ki 0)] [4,8,9,10,13] (.bl 2 (.seq (js [jm 43 13,jb 44 .leq .i 43 (ki 60)] [4,8,9,10,13,44] (.cond 44 .skip (.exit 2))) (.seq (.block 3 (js [jf 47 0 4,jk 48 47,jq 49 (.len false 48),jm 50 (ki 0)] [4,8,9,10,13,49,50] (.bl 4 (js [jb 51 .lss .i 50 49] [4,8,9,10,13,49,50,51] (.seq (.cond 51 .skip (.exit 4)) (.seq (.block 5 (js [jm 52 50,jm 14 52] [4,8,9,10,13,14,49,50] (js [jm 53 14,jm 54 13,jq 55 (.bld [.r (.v (.int .i64 0)),.r (.v (.int .i64 0))] [(0,1,53),(1,1,54)]),jq 15 (.alloc [.r (.v (.int .i64 0)),.r (.v (.int .i64 0))]),jp (.st 2 15 55)] [4,8,9,10,13,14,15,49,50] (js [jf 56 1 9,jk 57 56,jq 58 (.len false 57),jb 59 .lss .i 58 (ki 60),jm 60 59,ju 61 60 (.ld true 3 4),ju 62 60 (.mv 14),ju 63 60 (.mv 13),ju 64 60 (.call 94 true [61,62,63]),jq 65 (.pick 60 64 kf),jm 66 65,ju 67 66 (.ld true 15 10),ju 68 66 (.ld true 2 15),ju 69 66 (.call 93 true [67,68]),jq 70 (.pick 66 69 kf)] [4,8,9,10,13,15,49,50,70] (.cond 70 (.reg none [jf 71 1 9,jk 72 71,jl 73 2 15,jq 74 (.bsl 2 [73]),jq 75 (.app 2 16 true 72 74),jf 76 1 9,jp (.st 1 76 75)] [4,8,9,10,13,49,50]) .skip))))) (.reg none [jb 77 .add .i 50 (ki 1),jm 50 77] [4,8,9,10,13,49,50]))))))) (.reg none [jm 45 13,jb 46 .add .i 45 (ki 1),jm 13 46] [4,8,9,10,13]))))) (js [jl 78 2 9,jp (.st 2 8 78)] [8] .ret))))))
def rv48:List RV:=[.c 8 true 2]
def bK (g:G) (t:TE) (a0:Network) (v2:Int) (x2:Know):List Leg→Int→List Trip→Option (List Trip)
 |[],v3,w3=>
  some w3
 |z3::ls3,v3,w3=>
  br (g.lt (g.int (g.dlen (t.d_Trip w3))) 60)
  (
   cl (lW g t a0 v3 v2) fun x6=>
   br x6
   (
    cl (ay g t (Know.mk (Network.mk x2.n.Legs x2.n.Off x2.n.Change) x2.at_ x2.known x2.place (Trip.mk x2.ride.Leg x2.ride.Day) x2.rides x2.free (Spot.mk x2.from_.Place x2.from_.At) (Spot.mk x2.to.Place x2.to.At) x2.more) (Trip.mk v3 v2)) fun x7=>
    br x7
    (
     lP ([(Trip.mk v3 v2)]) fun(l3:List Trip)=>
     gd (((w3.length+l3.length)*16≤70368744177664))<|
     lP (w3++l3) fun(l4:List Trip)=>
     bK g t a0 v2 x2 ls3 (g.wrap .i64 (g.add v3 1)) l4)
    (
     bK g t a0 v2 x2 ls3 (g.wrap .i64 (g.add v3 1)) w3))
   (
    bK g t a0 v2 x2 ls3 (g.wrap .i64 (g.add v3 1)) w3))
  (
   bK g t a0 v2 x2 ls3 (g.wrap .i64 (g.add v3 1)) w3)
def dz (g:G) (t:TE) (a0:Network) (x2:Know):Nat→Int→List Trip→Option (List Trip)
 |0,v2,w2=>
  some w2
 |n2+1,v2,w2=>
  cl (bK g t a0 v2 x2 a0.Legs 0 w2) fun y2=>
  dz g t a0 x2 n2 (g.wrap .i64 (g.add v2 1)) y2
def cM (g:G) (t:TE) (x2:Know) (x3:List ByteArray):Nat→Int→List ByteArray→Option (List ByteArray)
 |0,v1,w1=>
  some w1
 |n1+1,v1,w1=>
  gt x3 (g.nat v1) fun x4=>
  cl (av g t (Know.mk (Network.mk x2.n.Legs x2.n.Off x2.n.Change) x2.at_ x2.known x2.place (Trip.mk x2.ride.Leg x2.ride.Day) x2.rides x2.free (Spot.mk x2.from_.Place x2.from_.At) (Spot.mk x2.to.Place x2.to.At) x2.more) x4) fun x5=>
  br x5
  (
   lP ([x4]) fun(l1:List ByteArray)=>
   gd (((w1.length+l1.length)*16≤70368744177664))<|
   lP (w1++l1) fun(l2:List ByteArray)=>
   cM g t x2 x3 n1 (g.wrap .i64 (g.add v1 1)) l2)
  (
   cM g t x2 x3 n1 (g.wrap .i64 (g.add v1 1)) w1)
def go (g:G) (t:TE) (a0:Network) (a1:List Scan) (a2:Int) (a3:Int):Option Belief:=
 cl (dk g t a0) fun x1=>
 br x1
 (
  cl (jA g t a0 a1 a2 a3) fun x2=>
  cl (en g t a0) fun x3=>
  gd (((g.int (g.dlen (t.d_S x3)))≤9223372036854775807))<|
  cl (cM g t x2 x3 (aq 0 (g.int (g.dlen (t.d_S x3)))) 0 []) fun y1=>
  cl (dz g t a0 x2 (e9 0 60) 0 []) fun y3=>
  some (Belief.mk y1 y3))
 (
  some (Belief.mk [] []))
theorem lI {g:G} {t:TE} {a0:Network} {a1:List Scan} {a2:Int} {a3:Int} {r:Belief} (hg:g=G.real) (ht:t=TE.real) (h:go g t a0 a1 a2 a3=some r):Fn Tryz.prog 48 [.g (Network.rs t a0),.c (.s 6 (t.r_Scan a1)),.c (.v (.int .i64 a2)),.c (.v (.int .i64 a3))] (.g (Belief.ds t r)):=by
 obtain⟨X,hX⟩:=aE (.g (Belief.ds t r):X);rw[←hX];refine au (rvs:=rv48) (j:=ir48) Tryz.func48 rfl (by kernel_rfl) (nb rfl) (by kernel_rfl) ae ?_;intro g2 F hg2 hF;obtain rfl:g2=g:=hg2.unique.trans hg.symm;clear hg2;obtain⟨wrap,lt,le,_,_,_,_,_,_,_,_,_,int,add,_,_,_,_,_,_,_,llen,_,_,dlen⟩:=g2;obtain⟨r_Leg,_,r_I64,_,_,_,_,d_S,_,d_Trip⟩:=t
 obtain⟨a0_Legs,a0_Off,a0_Change⟩:=a0;have hnil_S:d_S []=[]:=Ac ht;have hnil_Trip:d_Trip []=[]:=sF ht;unfold go at h;try dsimp only at h
 cbv;obtain⟨x1,hx1,h⟩:=ac h;try dsimp only at h
 refine ACall.mk _ _ rfl (hF _ _ _ (gj hg ht hx1)) (.inl rfl) (nb rfl) ?_;cbv
 cases hb1:x1
 ·rw[aa hb1] at h;cbv;obtain rfl:=Option.some.inj h;exact ARet.mk trivial (by rw[hX];first|rfl|(simp only[Leg.ds,Network.ds,Trip.ds,Scan.ds,Belief.ds,Spot.ds,Know.ds,hnil_S,hnil_Trip];try rfl))
 rw[ab hb1] at h;cbv;obtain⟨x2,hx2,h⟩:=ac h;obtain⟨⟨x2_n_Legs,x2_n_Off,x2_n_Change⟩,x2_at_,x2_known,x2_place,⟨x2_ride_Leg,x2_ride_Day⟩,x2_rides,x2_free,⟨x2_from__Place,x2_from__At⟩,⟨x2_to_Place,x2_to_At⟩,x2_more⟩:=x2;try dsimp only at h
 refine ACall.mk _ _ rfl (hF _ _ _ (pX hg ht hx2)) (.inl rfl) (nb rfl) ?_;cbv;obtain⟨x3,hx3,h⟩:=ac h;try dsimp only at h
 refine ACall.mk _ _ rfl (hF _ _ _ (fO hg ht hx3)) (.inl rfl) (nb rfl) ?_;cbv;obtain⟨hB1,h⟩:=ah h;obtain⟨o1,ho1,h⟩:=ac h;try dsimp only at h
 try rw[hg] at ho1
 try rw[ht] at ho1
 refine ABL.mk {p:Nat×Int×List ByteArray//p.1=aq p.2.1 (int (dlen (d_S x3)))∧0≤p.2.1∧cM G.real TE.real (Know.mk (Network.mk x2_n_Legs x2_n_Off x2_n_Change) x2_at_ x2_known x2_place (Trip.mk x2_ride_Leg x2_ride_Day) x2_rides x2_free (Spot.mk x2_from__Place x2_from__At) (Spot.mk x2_to_Place x2_to_At) x2_more) x3 p.1 p.2.1 p.2.2=some o1} (fun⟨⟨n1,v1,w1⟩,_⟩=>({sl:=[(4,.c (.p 0 3 0 0)),(8,.c (.p 1 2 0 0)),(9,.c (.p 2 2 0 0)),(10,.c (.p 4 15 0 0)),(27,.c (.f 5 1 0 (dlen (d_S x3)))),(28,.c (.r (.v (.int .i64 (int (dlen (d_S x3))))))),(29,.c (.r (.v (.int .i64 v1))))],tab:=[(0,some (.foc 3 [] [.r (.s 6 (r_Leg a0_Legs)),.r (.s 1 (r_I64 a0_Off)),.r (.v (.int .i64 a0_Change))] [])),(1,some (.foc 2 [] [.n 1,.n 2] [])),(2,some (.foc 2 [] [.f 3 1 0 (dlen (d_S w1)),.n 2] [])),(3,some (.arr 1 (d_S w1))),(4,some (.foc 15 [] [.r (.s 6 (r_Leg x2_n_Legs)),.r (.s 1 (r_I64 x2_n_Off)),.r (.v (.int .i64 x2_n_Change)),.r (.v (.int .i64 x2_at_)),.r (.v (.bool x2_known)),.r (.v (.string x2_place)),.r (.v (.int .i64 x2_ride_Leg)),.r (.v (.int .i64 x2_ride_Day)),.r (.v (.bool x2_rides)),.r (.v (.bool x2_free)),.r (.v (.string x2_from__Place)),.r (.v (.int .i64 x2_from__At)),.r (.v (.string x2_to_Place)),.r (.v (.int .i64 x2_to_At)),.r (.v (.bool x2_more))] [])),(5,some (.arr 1 (d_S x3)))]}:St)) 6 (fun p=>p.1.1) ⟨(aq 0 (int (dlen (d_S x3))),0,[]),rfl,Int.le_refl _,ho1⟩ (List ByteArray) (fun y1=>({sl:=[(4,.c (.p 0 3 0 0)),(8,.c (.p 1 2 0 0)),(9,.c (.p 2 2 0 0)),(10,.c (.p 4 15 0 0))],tab:=[(0,some (.foc 3 [] [.r (.s 6 (r_Leg a0_Legs)),.r (.s 1 (r_I64 a0_Off)),.r (.v (.int .i64 a0_Change))] [])),(1,some (.foc 2 [] [.n 1,.n 2] [])),(2,some (.foc 2 [] [.f 3 1 0 (dlen (d_S y1)),.n 2] [])),(3,some (.arr 1 (d_S y1))),(4,some (.foc 15 [] [.r (.s 6 (r_Leg x2_n_Legs)),.r (.s 1 (r_I64 x2_n_Off)),.r (.v (.int .i64 x2_n_Change)),.r (.v (.int .i64 x2_at_)),.r (.v (.bool x2_known)),.r (.v (.string x2_place)),.r (.v (.int .i64 x2_ride_Leg)),.r (.v (.int .i64 x2_ride_Day)),.r (.v (.bool x2_rides)),.r (.v (.bool x2_free)),.r (.v (.string x2_from__Place)),.r (.v (.int .i64 x2_from__At)),.r (.v (.string x2_to_Place)),.r (.v (.int .i64 x2_to_At)),.r (.v (.bool x2_more))] []))]}:St)) 5 (fun y=>o1=y) ?_ ?_ ?_
 ·refine Wk.of [(0,some 0),(1,some 16),(2,some 48),(3,none),(4,some 208),(5,some 256)] rfl rfl ?_ ?_
  ·cbv;all_goals try rw[show dlen (d_S [])=0 from ln hg ht]
   all_goals try rw[hnil_S]
   all_goals exact⟨⟨_,rfl,rfl⟩,⟨_,rfl,rfl⟩,⟨_,rfl,rfl⟩,⟨_,rfl,rfl⟩,⟨_,rfl,rfl⟩,⟨_,rfl,rfl⟩,⟨_,rfl,rfl⟩,trivial⟩
  cbv;all_goals try rw[show dlen (d_S [])=0 from ln hg ht]
  all_goals try rw[hnil_S]
  all_goals exact⟨⟨_,rfl,_,rfl,rfl,rfl,rfl,trivial⟩,⟨_,rfl,_,rfl,rfl,rfl,trivial⟩,⟨_,rfl,_,rfl,⟨⟨_,rfl⟩,rfl,rfl⟩,rfl,trivial⟩,⟨_,rfl⟩,⟨_,rfl,_,rfl,rfl,rfl,rfl,rfl,rfl,rfl,rfl,rfl,rfl,rfl,rfl,rfl,rfl,rfl,rfl,trivial⟩,⟨_,rfl,rfl⟩,trivial⟩
 ·rintro⟨⟨n1,v1,w1⟩,hn1,hi1,h_1⟩ hq1;try dsimp only at hn1 hi1 h_1
  clear hq1;cbv;rcases n1 with _|n1
  ·have hb2:lt v1 (int (dlen (d_S x3)))=false:=be hg hn1;rw[cM] at h_1;try rw[←hg] at h_1
   try rw[←ht] at h_1
   try dsimp only at h_1
   rw[hb2];cbv;refine⟨w1,Wk.of [(0,some 0),(1,some 1),(2,some 2),(3,some 3),(4,some 4)] rfl rfl ?_ ?_,(Option.some.inj h_1).symm⟩
   ·cbv;all_goals exact⟨⟨_,rfl,rfl⟩,⟨_,rfl,rfl⟩,⟨_,rfl,rfl⟩,⟨_,rfl,rfl⟩,trivial⟩
   cbv;all_goals exact⟨⟨_,rfl,_,rfl,rfl,rfl,rfl,trivial⟩,⟨_,rfl,_,rfl,rfl,rfl,trivial⟩,⟨_,rfl,_,rfl,rfl,rfl,trivial⟩,⟨_,rfl,rfl⟩,⟨_,rfl,_,rfl,rfl,rfl,rfl,rfl,rfl,rfl,rfl,rfl,rfl,rfl,rfl,rfl,rfl,rfl,rfl,trivial⟩,trivial⟩
  have hb2:lt v1 (int (dlen (d_S x3)))=true:=bF hg hn1;have hl1:=dM hn1;have hs1:=cF hg hn1 hi1 hB1 (by decide);rw[cM] at h_1;try rw[←hg] at h_1
  try rw[←ht] at h_1
  try dsimp only at h_1
  rw[hb2];cbv;refine AStep.mk (dB hg hi1 hl1) ?_;cbv;obtain⟨x4,hx4,h_1⟩:=aB h_1;try dsimp only at h_1
  refine AGet.mk _ (fW hg ht hx4) ?_;cbv;obtain⟨x5,hx5,h_1⟩:=ac h_1;try dsimp only at h_1
  refine ACall.mk _ _ rfl (hF _ _ _ (bV hg ht hx5)) (.inl rfl) (nb rfl) ?_;cbv
  cases hb3:x5
  ·rw[aa hb3] at h_1;cbv;try rw[hg] at h_1
   try rw[ht] at h_1
   refine⟨⟨(n1,(wrap .i64 (add v1 1)),w1),hs1.1,hs1.2,h_1⟩,Wk.of [(0,some 0),(1,some 1),(2,some 2),(3,some 3),(4,some 4),(5,some 5)] rfl rfl ?_ ?_,Nat.lt_succ_self _⟩
   ·cbv;all_goals exact⟨⟨_,rfl,rfl⟩,⟨_,rfl,rfl⟩,⟨_,rfl,rfl⟩,⟨_,rfl,rfl⟩,⟨_,rfl,rfl⟩,⟨_,rfl,rfl⟩,⟨_,rfl,rfl⟩,trivial⟩
   cbv;all_goals exact⟨⟨_,rfl,_,rfl,rfl,rfl,rfl,trivial⟩,⟨_,rfl,_,rfl,rfl,rfl,trivial⟩,⟨_,rfl,_,rfl,rfl,rfl,trivial⟩,⟨_,rfl,rfl⟩,⟨_,rfl,_,rfl,rfl,rfl,rfl,rfl,rfl,rfl,rfl,rfl,rfl,rfl,rfl,rfl,rfl,rfl,rfl,trivial⟩,⟨_,rfl,rfl⟩,trivial⟩
  rw[ab hb3] at h_1;cbv;obtain⟨l1,hl1,h_1⟩:=ak h_1;try dsimp only at h_1
  refine ANew.mk (d_S l1) (dlen (d_S l1)) (by rw[←hl1];exact gY hg ht [x4]) (by rw[←hl1];exact fm hg ht [x4]) ?_;cbv;obtain⟨hc1,h_1⟩:=ah h_1;refine AStep.mk ⟨⟨rfl,(al hg ht _)⟩,(cU hg ht (al hg ht _) rfl hc1)⟩ ?_;cbv;obtain⟨l2,hl2,h_1⟩:=ak h_1;try dsimp only at h_1
  refine ANew.mk (d_S l2) (dlen (d_S l2)) (by rw[←hl2];exact iO hg ht (al hg ht _) rfl) (by rw[←hl2];exact fA hg ht (al hg ht _) rfl) ?_;cbv;try rw[hg] at h_1
  try rw[ht] at h_1
  refine⟨⟨(n1,(wrap .i64 (add v1 1)),l2),hs1.1,hs1.2,h_1⟩,Wk.of [(0,some 0),(1,some 1),(2,some 2),(3,some 182),(4,some 4),(5,some 5)] rfl rfl ?_ ?_,Nat.lt_succ_self _⟩
  ·cbv;all_goals exact⟨⟨_,rfl,rfl⟩,⟨_,rfl,rfl⟩,⟨_,rfl,rfl⟩,⟨_,rfl,rfl⟩,⟨_,rfl,rfl⟩,⟨_,rfl,rfl⟩,⟨_,rfl,rfl⟩,trivial⟩
  cbv;all_goals exact⟨⟨_,rfl,_,rfl,rfl,rfl,rfl,trivial⟩,⟨_,rfl,_,rfl,rfl,rfl,trivial⟩,⟨_,rfl,_,rfl,rfl,rfl,trivial⟩,⟨_,rfl,rfl⟩,⟨_,rfl,_,rfl,rfl,rfl,rfl,rfl,rfl,rfl,rfl,rfl,rfl,rfl,rfl,rfl,rfl,rfl,rfl,trivial⟩,⟨_,rfl,rfl⟩,trivial⟩
 rintro y1 hy1;replace hy1:=hy1.symm;subst hy1;try dsimp only[lr,lrL,lrp,aP] at h
 cbv;obtain⟨o2,ho2,h⟩:=ac h;try dsimp only at h
 try rw[hg] at ho2
 try rw[ht] at ho2
 refine ABL.mk {p:Nat×Int×List Trip//p.1=e9 p.2.1 60∧0≤p.2.1∧dz G.real TE.real (Network.mk a0_Legs a0_Off a0_Change) (Know.mk (Network.mk x2_n_Legs x2_n_Off x2_n_Change) x2_at_ x2_known x2_place (Trip.mk x2_ride_Leg x2_ride_Day) x2_rides x2_free (Spot.mk x2_from__Place x2_from__At) (Spot.mk x2_to_Place x2_to_At) x2_more) p.1 p.2.1 p.2.2=some o2} (fun⟨⟨n2,v2,w2⟩,_⟩=>({sl:=[(4,.c (.p 0 3 0 0)),(8,.c (.p 1 2 0 0)),(9,.c (.p 2 2 0 0)),(10,.c (.p 5 15 0 0)),(13,.c (.r (.v (.int .i64 v2))))],tab:=[(0,some (.foc 3 [] [.r (.s 6 (r_Leg a0_Legs)),.r (.s 1 (r_I64 a0_Off)),.r (.v (.int .i64 a0_Change))] [])),(1,some (.foc 2 [] [.n 1,.n 2] [])),(2,some (.foc 2 [] [.f 3 1 0 (dlen (d_S y1)),.f 4 2 0 (dlen (d_Trip w2))] [])),(3,some (.arr 1 (d_S y1))),(4,some (.arr 2 (d_Trip w2))),(5,some (.foc 15 [] [.r (.s 6 (r_Leg x2_n_Legs)),.r (.s 1 (r_I64 x2_n_Off)),.r (.v (.int .i64 x2_n_Change)),.r (.v (.int .i64 x2_at_)),.r (.v (.bool x2_known)),.r (.v (.string x2_place)),.r (.v (.int .i64 x2_ride_Leg)),.r (.v (.int .i64 x2_ride_Day)),.r (.v (.bool x2_rides)),.r (.v (.bool x2_free)),.r (.v (.string x2_from__Place)),.r (.v (.int .i64 x2_from__At)),.r (.v (.string x2_to_Place)),.r (.v (.int .i64 x2_to_At)),.r (.v (.bool x2_more))] []))]}:St)) 6 (fun p=>p.1.1) ⟨(e9 0 60,0,[]),rfl,Int.le_refl _,ho2⟩ (List Trip) (fun y3=>({sl:=[(8,.c (.p 0 2 0 0)),(9,.c (.p 1 2 0 0))],tab:=[(0,some (.foc 2 [] [.n 1,.n 2] [])),(1,some (.foc 2 [] [.f 2 1 0 (dlen (d_S y1)),.f 3 2 0 (dlen (d_Trip y3))] [])),(2,some (.arr 1 (d_S y1))),(3,some (.arr 2 (d_Trip y3)))]}:St)) 4 (fun y=>o2=y) ?_ ?_ ?_
 ·refine Wk.of [(0,some 0),(1,some 1),(2,some 2),(3,some 3),(4,none),(5,some 4)] rfl rfl ?_ ?_
  ·cbv;all_goals try rw[show dlen (d_Trip [])=0 from iz hg ht]
   all_goals try rw[hnil_Trip]
   all_goals exact⟨⟨_,rfl,rfl⟩,⟨_,rfl,rfl⟩,⟨_,rfl,rfl⟩,⟨_,rfl,rfl⟩,⟨_,rfl,rfl⟩,trivial⟩
  cbv;all_goals try rw[show dlen (d_Trip [])=0 from iz hg ht]
  all_goals try rw[hnil_Trip]
  all_goals exact⟨⟨_,rfl,_,rfl,rfl,rfl,rfl,trivial⟩,⟨_,rfl,_,rfl,rfl,rfl,trivial⟩,⟨_,rfl,_,rfl,rfl,⟨⟨_,rfl⟩,rfl,rfl⟩,trivial⟩,⟨_,rfl,rfl⟩,⟨_,rfl⟩,⟨_,rfl,_,rfl,rfl,rfl,rfl,rfl,rfl,rfl,rfl,rfl,rfl,rfl,rfl,rfl,rfl,rfl,rfl,trivial⟩,trivial⟩
 ·rintro⟨⟨n2,v2,w2⟩,hn2,hi2,h_2⟩ hq2;try dsimp only at hn2 hi2 h_2
  clear hq2;cbv;rcases n2 with _|n2
  ·have hb4:le v2 60=false:=mU hg hn2;rw[dz] at h_2;try rw[←hg] at h_2
   try rw[←ht] at h_2
   try dsimp only at h_2
   rw[hb4];cbv;refine⟨w2,Wk.of [(0,some 1),(1,some 2),(2,some 3),(3,some 4)] rfl rfl ?_ ?_,(Option.some.inj h_2).symm⟩
   ·cbv;all_goals exact⟨⟨_,rfl,rfl⟩,⟨_,rfl,rfl⟩,trivial⟩
   cbv;all_goals exact⟨⟨_,rfl,_,rfl,rfl,rfl,trivial⟩,⟨_,rfl,_,rfl,rfl,rfl,trivial⟩,⟨_,rfl,rfl⟩,⟨_,rfl,rfl⟩,trivial⟩
  have hb4:le v2 60=true:=oH hg hn2;have hl2:=uV hn2;have hs2:=qR hg hn2 hi2 (by decide) (by decide);rw[dz] at h_2;try rw[←hg] at h_2
  try rw[←ht] at h_2
  try dsimp only at h_2
  rw[hb4];cbv;obtain⟨o3,ho3,h_2⟩:=ac h_2;try dsimp only at h_2
  try rw[hg] at ho3
  try rw[ht] at ho3
  refine ABL.mk {p:Nat×Int×List Trip//p.1≤a0_Legs.length∧p.2.1=((p.1:Nat):Int)∧bK G.real TE.real (Network.mk a0_Legs a0_Off a0_Change) v2 (Know.mk (Network.mk x2_n_Legs x2_n_Off x2_n_Change) x2_at_ x2_known x2_place (Trip.mk x2_ride_Leg x2_ride_Day) x2_rides x2_free (Spot.mk x2_from__Place x2_from__At) (Spot.mk x2_to_Place x2_to_At) x2_more) (List.drop p.1 a0_Legs) p.2.1 p.2.2=some o3} (fun⟨⟨k3,v3,w3⟩,_⟩=>({sl:=[(4,.c (.p 0 3 0 0)),(8,.c (.p 1 2 0 0)),(9,.c (.p 2 2 0 0)),(10,.c (.p 5 15 0 0)),(13,.c (.r (.v (.int .i64 v2)))),(49,.c (.r (.v (.int .i64 (llen (r_Leg a0_Legs)))))),(50,.c (.r (.v (.int .i64 v3))))],tab:=[(0,some (.foc 3 [] [.r (.s 6 (r_Leg a0_Legs)),.r (.s 1 (r_I64 a0_Off)),.r (.v (.int .i64 a0_Change))] [])),(1,some (.foc 2 [] [.n 1,.n 2] [])),(2,some (.foc 2 [] [.f 3 1 0 (dlen (d_S y1)),.f 4 2 0 (dlen (d_Trip w3))] [])),(3,some (.arr 1 (d_S y1))),(4,some (.arr 2 (d_Trip w3))),(5,some (.foc 15 [] [.r (.s 6 (r_Leg x2_n_Legs)),.r (.s 1 (r_I64 x2_n_Off)),.r (.v (.int .i64 x2_n_Change)),.r (.v (.int .i64 x2_at_)),.r (.v (.bool x2_known)),.r (.v (.string x2_place)),.r (.v (.int .i64 x2_ride_Leg)),.r (.v (.int .i64 x2_ride_Day)),.r (.v (.bool x2_rides)),.r (.v (.bool x2_free)),.r (.v (.string x2_from__Place)),.r (.v (.int .i64 x2_from__At)),.r (.v (.string x2_to_Place)),.r (.v (.int .i64 x2_to_At)),.r (.v (.bool x2_more))] []))]}:St)) 6 (fun p=>a0_Legs.length-p.1.1) ⟨(0,0,w2),Nat.zero_le _,rfl,ho3⟩ (List Trip) (fun y2=>({sl:=[(4,.c (.p 0 3 0 0)),(8,.c (.p 1 2 0 0)),(9,.c (.p 2 2 0 0)),(10,.c (.p 5 15 0 0)),(13,.c (.r (.v (.int .i64 v2))))],tab:=[(0,some (.foc 3 [] [.r (.s 6 (r_Leg a0_Legs)),.r (.s 1 (r_I64 a0_Off)),.r (.v (.int .i64 a0_Change))] [])),(1,some (.foc 2 [] [.n 1,.n 2] [])),(2,some (.foc 2 [] [.f 3 1 0 (dlen (d_S y1)),.f 4 2 0 (dlen (d_Trip y2))] [])),(3,some (.arr 1 (d_S y1))),(4,some (.arr 2 (d_Trip y2))),(5,some (.foc 15 [] [.r (.s 6 (r_Leg x2_n_Legs)),.r (.s 1 (r_I64 x2_n_Off)),.r (.v (.int .i64 x2_n_Change)),.r (.v (.int .i64 x2_at_)),.r (.v (.bool x2_known)),.r (.v (.string x2_place)),.r (.v (.int .i64 x2_ride_Leg)),.r (.v (.int .i64 x2_ride_Day)),.r (.v (.bool x2_rides)),.r (.v (.bool x2_free)),.r (.v (.string x2_from__Place)),.r (.v (.int .i64 x2_from__At)),.r (.v (.string x2_to_Place)),.r (.v (.int .i64 x2_to_At)),.r (.v (.bool x2_more))] []))]}:St)) 6 (fun y=>o3=y) ?_ ?_ ?_
  ·refine Wk.of [(0,some 0),(1,some 1),(2,some 2),(3,some 3),(4,some 4),(5,some 5)] rfl rfl ?_ ?_
   ·cbv;all_goals exact⟨⟨_,rfl,rfl⟩,⟨_,rfl,rfl⟩,⟨_,rfl,rfl⟩,⟨_,rfl,rfl⟩,⟨_,rfl,rfl⟩,⟨_,rfl,rfl⟩,⟨_,rfl,rfl⟩,trivial⟩
   cbv;all_goals exact⟨⟨_,rfl,_,rfl,rfl,rfl,rfl,trivial⟩,⟨_,rfl,_,rfl,rfl,rfl,trivial⟩,⟨_,rfl,_,rfl,rfl,rfl,trivial⟩,⟨_,rfl,rfl⟩,⟨_,rfl,rfl⟩,⟨_,rfl,_,rfl,rfl,rfl,rfl,rfl,rfl,rfl,rfl,rfl,rfl,rfl,rfl,rfl,rfl,rfl,rfl,trivial⟩,trivial⟩
  ·rintro⟨⟨k3,v3,w3⟩,hk3,hi3,h_3⟩ hq3;have hm3:=(hq3.2.2.1 0 _ _ _ _ 0 _ _ rfl rfl);try dsimp only at hk3 hi3 h_3
   clear hq3;cbv
   by_cases hc3_:k3<a0_Legs.length
   ·have hb5:lt v3 (llen (r_Leg a0_Legs))=true:=cL hg ht hi3 hc3_;have hs3:=ff hg ht hi3 hc3_ hm3;obtain⟨z3,hz3⟩:=aF hc3_;rw[aw hz3] at h_3;rw[bK] at h_3;obtain⟨z3_From,z3_To,z3_Start,z3_Takes,z3_Days,z3_Room⟩:=z3;try rw[←hg] at h_3
    try rw[←ht] at h_3
    try dsimp only at h_3
    rw[hb5];cbv
    cases hb6:(lt (int (dlen (d_Trip w3))) 60)
    ·rw[aa hb6] at h_3;cbv;iterate 4 try(rw[hb6];cbv)
     try rw[hg] at h_3
     try rw[ht] at h_3
     refine⟨⟨(k3+1,(wrap .i64 (add v3 1)),w3),hc3_,hs3,h_3⟩,Wk.of [(0,some 0),(1,some 1),(2,some 2),(3,some 3),(4,some 4),(5,some 5)] rfl rfl ?_ ?_,aO hc3_⟩
     ·cbv;all_goals exact⟨⟨_,rfl,rfl⟩,⟨_,rfl,rfl⟩,⟨_,rfl,rfl⟩,⟨_,rfl,rfl⟩,⟨_,rfl,rfl⟩,⟨_,rfl,rfl⟩,⟨_,rfl,rfl⟩,trivial⟩
     cbv;all_goals exact⟨⟨_,rfl,_,rfl,rfl,rfl,rfl,trivial⟩,⟨_,rfl,_,rfl,rfl,rfl,trivial⟩,⟨_,rfl,_,rfl,rfl,rfl,trivial⟩,⟨_,rfl,rfl⟩,⟨_,rfl,rfl⟩,⟨_,rfl,_,rfl,rfl,rfl,rfl,rfl,rfl,rfl,rfl,rfl,rfl,rfl,rfl,rfl,rfl,rfl,rfl,trivial⟩,trivial⟩
    rw[ab hb6] at h_3;cbv;iterate 3 try(rw[hb6];cbv)
    obtain⟨x6,hx6,h_3⟩:=ac h_3;try dsimp only at h_3
    refine ACall.mk _ _ rfl (hF _ _ _ (rf hg ht hx6)) (.inl rfl) (nb rfl) ?_;cbv;try(rw[hb6];cbv)
    cases hb7:x6
    ·rw[aa hb7] at h_3;cbv;iterate 3 try(rw[hb7];cbv)
     try rw[hg] at h_3
     try rw[ht] at h_3
     refine⟨⟨(k3+1,(wrap .i64 (add v3 1)),w3),hc3_,hs3,h_3⟩,Wk.of [(0,some 0),(1,some 1),(2,some 2),(3,some 3),(4,some 4),(5,some 5)] rfl rfl ?_ ?_,aO hc3_⟩
     ·cbv;all_goals exact⟨⟨_,rfl,rfl⟩,⟨_,rfl,rfl⟩,⟨_,rfl,rfl⟩,⟨_,rfl,rfl⟩,⟨_,rfl,rfl⟩,⟨_,rfl,rfl⟩,⟨_,rfl,rfl⟩,trivial⟩
     cbv;all_goals exact⟨⟨_,rfl,_,rfl,rfl,rfl,rfl,trivial⟩,⟨_,rfl,_,rfl,rfl,rfl,trivial⟩,⟨_,rfl,_,rfl,rfl,rfl,trivial⟩,⟨_,rfl,rfl⟩,⟨_,rfl,rfl⟩,⟨_,rfl,_,rfl,rfl,rfl,rfl,rfl,rfl,rfl,rfl,rfl,rfl,rfl,rfl,rfl,rfl,rfl,rfl,trivial⟩,trivial⟩
    rw[ab hb7] at h_3;cbv;iterate 2 try(rw[hb7];cbv)
    obtain⟨x7,hx7,h_3⟩:=ac h_3;try dsimp only at h_3
    refine ACall.mk _ _ rfl (hF _ _ _ (ew hg ht hx7)) (.inl rfl) (nb rfl) ?_;cbv;try(rw[hb7];cbv)
    cases hb8:x7
    ·rw[aa hb8] at h_3;cbv;try rw[hg] at h_3
     try rw[ht] at h_3
     refine⟨⟨(k3+1,(wrap .i64 (add v3 1)),w3),hc3_,hs3,h_3⟩,Wk.of [(0,some 0),(1,some 1),(2,some 2),(3,some 3),(4,some 4),(5,some 5)] rfl rfl ?_ ?_,aO hc3_⟩
     ·cbv;all_goals exact⟨⟨_,rfl,rfl⟩,⟨_,rfl,rfl⟩,⟨_,rfl,rfl⟩,⟨_,rfl,rfl⟩,⟨_,rfl,rfl⟩,⟨_,rfl,rfl⟩,⟨_,rfl,rfl⟩,trivial⟩
     cbv;all_goals exact⟨⟨_,rfl,_,rfl,rfl,rfl,rfl,trivial⟩,⟨_,rfl,_,rfl,rfl,rfl,trivial⟩,⟨_,rfl,_,rfl,rfl,rfl,trivial⟩,⟨_,rfl,rfl⟩,⟨_,rfl,rfl⟩,⟨_,rfl,_,rfl,rfl,rfl,rfl,rfl,rfl,rfl,rfl,rfl,rfl,rfl,rfl,rfl,rfl,rfl,rfl,trivial⟩,trivial⟩
    rw[ab hb8] at h_3;cbv;obtain⟨l3,hl3,h_3⟩:=ak h_3;try dsimp only at h_3
    refine ANew.mk (d_Trip l3) (dlen (d_Trip l3)) (by rw[←hl3];exact wS hg ht [(Trip.mk v3 v2)]) (by rw[←hl3];exact ud hg ht [(Trip.mk v3 v2)]) ?_;cbv;obtain⟨hc2,h_3⟩:=ah h_3;refine AStep.mk ⟨⟨rfl,(a7 hg ht _)⟩,(qr hg ht (a7 hg ht _) rfl hc2)⟩ ?_;cbv;obtain⟨l4,hl4,h_3⟩:=ak h_3;try dsimp only at h_3
    refine ANew.mk (d_Trip l4) (dlen (d_Trip l4)) (by rw[←hl4];exact we hg ht (a7 hg ht _) rfl) (by rw[←hl4];exact tM hg ht (a7 hg ht _) rfl) ?_;cbv;try rw[hg] at h_3
    try rw[ht] at h_3
    refine⟨⟨(k3+1,(wrap .i64 (add v3 1)),l4),hc3_,hs3,h_3⟩,Wk.of [(0,some 0),(1,some 1),(2,some 2),(3,some 3),(4,some 438),(5,some 5)] rfl rfl ?_ ?_,aO hc3_⟩
    ·cbv;all_goals exact⟨⟨_,rfl,rfl⟩,⟨_,rfl,rfl⟩,⟨_,rfl,rfl⟩,⟨_,rfl,rfl⟩,⟨_,rfl,rfl⟩,⟨_,rfl,rfl⟩,⟨_,rfl,rfl⟩,trivial⟩
    cbv;all_goals exact⟨⟨_,rfl,_,rfl,rfl,rfl,rfl,trivial⟩,⟨_,rfl,_,rfl,rfl,rfl,trivial⟩,⟨_,rfl,_,rfl,rfl,rfl,trivial⟩,⟨_,rfl,rfl⟩,⟨_,rfl,rfl⟩,⟨_,rfl,_,rfl,rfl,rfl,rfl,rfl,rfl,rfl,rfl,rfl,rfl,rfl,rfl,rfl,rfl,rfl,rfl,trivial⟩,trivial⟩
   have hb5:lt v3 (llen (r_Leg a0_Legs))=false:=cg hg ht hi3 hc3_;rw[List.drop_of_length_le (Nat.le_of_not_lt hc3_)] at h_3;rw[bK] at h_3;try rw[←hg] at h_3
   try rw[←ht] at h_3
   try dsimp only at h_3
   rw[hb5];cbv;refine⟨w3,Wk.of [(0,some 0),(1,some 1),(2,some 2),(3,some 3),(4,some 4),(5,some 5)] rfl rfl ?_ ?_,(Option.some.inj h_3).symm⟩
   ·cbv;all_goals exact⟨⟨_,rfl,rfl⟩,⟨_,rfl,rfl⟩,⟨_,rfl,rfl⟩,⟨_,rfl,rfl⟩,⟨_,rfl,rfl⟩,trivial⟩
   cbv;all_goals exact⟨⟨_,rfl,_,rfl,rfl,rfl,rfl,trivial⟩,⟨_,rfl,_,rfl,rfl,rfl,trivial⟩,⟨_,rfl,_,rfl,rfl,rfl,trivial⟩,⟨_,rfl,rfl⟩,⟨_,rfl,rfl⟩,⟨_,rfl,_,rfl,rfl,rfl,rfl,rfl,rfl,rfl,rfl,rfl,rfl,rfl,rfl,rfl,rfl,rfl,rfl,trivial⟩,trivial⟩
  rintro y2 hy3;replace hy3:=hy3.symm;subst hy3;try dsimp only[lr,lrL,lrp,aP] at h_2
  cbv;try rw[hg] at h_2
  try rw[ht] at h_2
  refine⟨⟨(n2,(wrap .i64 (add v2 1)),y2),hs2.1,hs2.2,h_2⟩,Wk.of [(0,some 0),(1,some 1),(2,some 2),(3,some 3),(4,some 4),(5,some 5)] rfl rfl ?_ ?_,Nat.lt_succ_self _⟩
  ·cbv;all_goals exact⟨⟨_,rfl,rfl⟩,⟨_,rfl,rfl⟩,⟨_,rfl,rfl⟩,⟨_,rfl,rfl⟩,⟨_,rfl,rfl⟩,trivial⟩
  cbv;all_goals exact⟨⟨_,rfl,_,rfl,rfl,rfl,rfl,trivial⟩,⟨_,rfl,_,rfl,rfl,rfl,trivial⟩,⟨_,rfl,_,rfl,rfl,rfl,trivial⟩,⟨_,rfl,rfl⟩,⟨_,rfl,rfl⟩,⟨_,rfl,_,rfl,rfl,rfl,rfl,rfl,rfl,rfl,rfl,rfl,rfl,rfl,rfl,rfl,rfl,rfl,rfl,trivial⟩,trivial⟩
 rintro y3 hy2;replace hy2:=hy2.symm;subst hy2;try dsimp only[lr,lrL,lrp,aP] at h
 cbv;obtain rfl:=Option.some.inj h;exact ARet.mk ⟨⟨rfl,(al hg ht _)⟩,⟨rfl,(a7 hg ht _)⟩⟩ hX.symm
end Go.Vs
