/- Part of the proofs of this seat's laws: Lab. No condition. -/
import Derived.Test.YticpmdigfdpmfaaGreatTy
import Derived.Test.YticpmdigfdpmfaaGreatTIRall
import Derived.Test.YticpmdigfdpmfaaGreatLaa
set_option linter.unusedVariables false
set_option linter.unusedSimpArgs false
set_option linter.unusedSectionVars false
namespace Go.Vs
open Go.Proofs Go.IntWalk
set_option linter.unusedVariables false
set_option maxRecDepth 100000
def callFd (g:G) (t:TE) (f:Fd) (x0:Int) (x1:Int):Option (Trip×Bool):=match f with
 |.I_nextOf_1 a0=>I_nextOf_1 g t x0 x1 a0
 |.I_freeOf_1 a0 a1 a2 a3=>I_freeOf_1 g t x0 x1 a0 a1 a2 a3
theorem C4 {g:G} {t:TE} {f:Fd} {x0:Int} {x1:Int} {r:Trip×Bool} (hg:g=G.real) (ht:t=TE.real) (h:callFd g t f x0 x1=some r):∃(q:Nat) (bs:List (List R)),t.r_Fd f=.fn q bs∧(iy Tryz.prog q=true∧Fn Tryz.prog q ([.c (.v (.int .i64 x0)),.c (.v (.int .i64 x1))]++bs.map A.q) (.u [.g (Trip.ds t r.1),.c (.r (.v (.bool r.2)))])):=by
 cases f with
 |I_nextOf_1 a0=>
  exact⟨_,_,(lC ht a0).symm,by kernel_rfl,uS hg ht h⟩
 |I_freeOf_1 a0 a1 a2 a3=>
  exact⟨_,_,(qH ht a0 a1 a2 a3).symm,by kernel_rfl,u6 hg ht h⟩
def H5:J:=js [jq 5 (.box 0),jq 10 (.mv (.k (.c (.n 1))))] [1,2,3,4,5] (js [jl 23 3 5,jc 24 82 [23],jm 11 24] [1,2,3,4,5,11] (js [jm 25 11,jm 26 2,jc 27 84 [25,26],jm 12 27] [1,3,4,5,11,12] (.seq (js [jm 28 12,jb 29 .lss .i 28 (ki 0),jm 30 29,jv 31 30 (.mv 3),jv 32 30 (.bin .gtr .i 31 (ki 100000)),jq 33 (.pick 30 kt 32),jm 34 33,jv 35 34 (.mv 4),jv 36 34 (.bin .lss .i 35 (ki 0)),jq 37 (.pick 34 kt 36)] [1,3,4,5,11,12,37] (.cond 37 (js [jq 10 (.mv (.k (.c (.n 1))))] [10] .ret) .skip)) (js [jq 38 (.bsl 1 []),jm 13 38] [1,3,4,5,11,12,13] (.seq (js [jm 39 11,jq 40 (.len false 39),jm 41 (ki 0)] [1,3,4,5,11,12,13,40,41] (.bl 0 (js [jb 42 .lss .i 41 40] [1,3,4,5,11,12,13,40,41,42] (.seq (.cond 42 .skip (.exit 0)) (.seq (.block 1 (.reg none [jm 43 13,jq 44 (.bsl 1 [(.k (V.i (-1)))]),jq 45 (.app 1 8 true 43 44),jm 13 45] [1,3,4,5,11,12,13,40,41])) (.reg none [jb 46 .add .i 41 (ki 1),jm 41 46] [1,3,4,5,11,12,13,40,41])))))) (js [jm 47 13,jm 48 12,jm 49 3,jq 50 (.mnx true 49 (ki 0)),ja 51 1 47 48,jp (.st 1 51 50)] [1,4,5,11,12,13] (.seq (js [jm 14 (ki 0)] [1,4,5,11,12,13,14] (.bl 2 (.seq (js [jm 52 14,jm 53 4,jb 54 .lss .i 52 53] [1,4,5,11,12,13,14,54] (.cond 54 .skip (.exit 2))) (.seq (.block 3 (js [jq 57 (.bsl 1 []),jm 58 13,jq 59 (.app 1 8 false 57 58),jm 15 59] [1,4,5,11,12,13,14,15] (js [jm 16 kf] [1,4,5,11,12,13,14,15,16] (.seq (js [jf 60 0 5,jk 61 60,jq 62 (.len false 61),jm 63 (ki 0)] [1,4,5,11,12,13,14,15,16,61,62,63] (.bl 4 (js [jb 64 .lss .i 63 62] [1,4,5,11,12,13,14,15,16,61,62,63,64] (.seq (.cond 64 .skip (.exit 4)) (.seq (.block 5 (js [jm 65 63,ja 66 6 61 63,jl 67 6 66,jq 18 (.alloc [.r (.v (.string .empty)),.r (.v (.string .empty)),.r (.v (.int .i64 0)),.r (.v (.int .i64 0)),.r (.v (.int .i64 0)),.r (.v (.int .i64 0))]),jm 17 65,jp (.st 6 18 67)] [1,4,5,11,12,13,14,15,16,17,18,61,62,63] (js [jm 68 11,jf 69 0 18,jk 70 69,jc 71 84 [68,70],jm 19 71] [1,4,5,11,12,13,14,15,16,17,18,19,61,62,63] (js [jm 72 11,jf 73 1 18,jk 74 73,jc 75 84 [72,74],jm 20 75] [1,4,5,11,12,13,14,15,16,17,19,20,61,62,63] (.seq (js [jm 76 13,jm 77 19,ja 78 1 76 77,jk 79 78,jb 80 .lss .i 79 (ki 0)] [1,4,5,11,12,13,14,15,16,17,19,20,61,62,63,80] (.cond 80 (.exit 5) .skip)) (.seq (.reg (some [[],[],[],[],[],[3,4],[3,4,5],[],[],[7,8],[2,3,4,5,6,7,8,9],[0,1,2,3,4,5,6,7,8,9,10],[0,1,2,3,4,5,6,7,8,9,10,11],[0,1,2,3,4,5,6,7,8,9,10,11,12],[0,1,2,3,4,5,6,7,8,9,10,11,12],[],[0,1,2,3,4,5,6,7,8,9,10,11,12,13,15],[0,1,2,3,4,5,6,7,8,9,10,11,12,13,14,15,16]]) [jm 82 1,jm 83 17,jl 84 3 5,jm 85 13,jm 86 19,ja 87 1 85 86,jk 88 87,jm 89 19,jm 90 12,jb 91 .eql .i 89 90,jc 92 149 [84,88,91],jq 93 (.callv true 82 [83,92]),jm 81 93,jq 94 (.ext 0 81),
 jq 95 (.ext 1 81),jq 21 (.alloc [.r (.v (.int .i64 0)),.r (.v (.int .i64 0))]),jp (.st 2 21 94),jm 22 95] [1,4,5,11,12,13,14,15,16,20,21,22,61,62,63]) (.seq (.reg (some [[],[0],[0,1],[0,1],[0,1,2,3],[0,1,2,3,4],[0,1,2,3,4,5],[0,1,2,3,4,5,6],[0,1,2,3,4,5,6,7],[0,1,2,3,4,5,6,7],[0,1,2,3,4,5,6,7,8,9],[0,1,2,3,4,5,6,7],[0,1,2,3,4,5,6,7],[0,1,2,3,4,5,6,7,11,12],[0,1,2,3,4,5,6,7,11,12,13],[0,1,2,3,4,5,6,7,8,9,10,11,12,13,14],[0,1,2,3,4,5,6,7,8,9,10,11,12,13,14,15],[0,1,2,3,4,5,6,7,8,9,10,11,12,13,14,15,16]]) [jm 96 22,jm 97 96,ju 98 97 (.mv 15),ju 99 97 (.mv 20),ju 100 97 (.ia 1 98 99),ju 101 97 (.ld false 1 100),ju 102 97 (.bin .lss .i 101 (ki 0)),ju 103 97 (.mv 102),jv 104 103 (.ld true 3 5),jv 105 103 (.ld true 2 21),jv 106 103 (.call 86 true [104,105]),jv 107 103 (.mv 15),jv 108 103 (.mv 20),jv 109 103 (.ia 1 107 108),jv 110 103 (.ld false 1 109),jv 111 103 (.bin .lss .i 106 110),ju 112 97 (.pick 103 kt 111),jq 113 (.pick 97 112 kf)] [1,4,5,11,12,13,14,15,16,20,21,61,62,63,113]) (.cond 113 (js [jm 114 15,jm 115 20,jl 116 3 5,jl 117 2 21,jc 118 86 [116,117],ja 119 1 114 115,jp (.st 1 119 118)] [1,4,5,11,12,13,14,15,61,62,63] (.reg none [jm 16 kt] [1,4,5,11,12,13,14,15,16,61,62,63])) .skip)))))))) (.reg none [jb 120 .add .i 63 (ki 1),jm 63 120] [1,4,5,11,12,13,14,15,16,61,62,63])))))) (js [jm 121 15,jm 13 121] [1,4,5,11,12,13,14,16] (js [jm 122 16,jq 123 (.not 122)] [1,4,5,11,12,13,14,123] (.cond 123 (.exit 2) .skip))))))) (.reg none [jm 55 14,jb 56 .add .i 55 (ki 1),jm 14 56] [1,4,5,11,12,13,14]))))) (js [jm 124 13,jm 10 124] [10] .ret))))))))
def HI:List RV:=[.t 10]
set_option maxHeartbeats 4000000
def bx (g:G) (t:TE) (a0:Network) (a1:Fd) (w2:List Int) (x1:List ByteArray) (x2:Int):List Leg→Int→List Int→Bool→Option ((List Int)×Bool)
 |[],v4,w3,v3=>
  some (w3,v3)
 |z3::ls3,v4,w3,v3=>
  lP (cJ g t x1 z3.From) fun x4=>
  lP (cJ g t x1 z3.To) fun x5=>
  gd (((0:Int)≤x4∧x4<(((g.dlen (t.d_I64 w2)):Nat):Int)))<|
  gt w2 (g.nat x4) fun x6=>
  br (g.lt x6 0)
  (
   bx g t a0 a1 w2 x1 x2 ls3 (g.wrap .i64 (g.add v4 1)) w3 v3)
  (
   gd (((0:Int)≤x4∧x4<(((g.dlen (t.d_I64 w2)):Nat):Int)))<|
   lP (ge g t a0 x6 (g.eq x4 x2)) fun x7=>
   cl (callFd g t a1 v4 x7) fun x8=>
   br x8.2
   (
    gd (((0:Int)≤x5∧x5<(((g.dlen (t.d_I64 w3)):Nat):Int)))<|
    gt w3 (g.nat x5) fun x9=>
    br (g.lt x9 0)
    (
     cl (jM g t a0 (Trip.mk x8.1.Leg x8.1.Day)) fun x10=>
     gd (((0:Int)≤x5∧x5<(((g.dlen (t.d_I64 w3)):Nat):Int)))<|
     lP (List.set w3 (g.nat x5) x10) fun(l7:List Int)=>
     bx g t a0 a1 w2 x1 x2 ls3 (g.wrap .i64 (g.add v4 1)) l7 true)
    (
     cl (jM g t a0 (Trip.mk x8.1.Leg x8.1.Day)) fun x11=>
     gd (((0:Int)≤x5∧x5<(((g.dlen (t.d_I64 w3)):Nat):Int)))<|
     br (g.lt x11 x9)
     (
      cl (jM g t a0 (Trip.mk x8.1.Leg x8.1.Day)) fun x12=>
      gd (((0:Int)≤x5∧x5<(((g.dlen (t.d_I64 w3)):Nat):Int)))<|
      lP (List.set w3 (g.nat x5) x12) fun(l8:List Int)=>
      bx g t a0 a1 w2 x1 x2 ls3 (g.wrap .i64 (g.add v4 1)) l8 true)
     (
      bx g t a0 a1 w2 x1 x2 ls3 (g.wrap .i64 (g.add v4 1)) w3 v3)))
   (
    bx g t a0 a1 w2 x1 x2 ls3 (g.wrap .i64 (g.add v4 1)) w3 v3))
def c7 (g:G) (t:TE) (a0:Network) (a1:Fd) (x1:List ByteArray) (x2:Int):Nat→List Int→Option (List Int)
 |0,w2=>
  some w2
 |n2+1,w2=>
  lP ([]) fun(l5:List Int)=>
  gd (((l5.length+w2.length)*8≤70368744177664))<|
  lP (l5++w2) fun(l6:List Int)=>
  cl (bx g t a0 a1 w2 x1 x2 a0.Legs 0 l6 false) fun y2=>
  br y2.2
  (
   c7 g t a0 a1 x1 x2 n2 y2.1)
  (
   some y2.1)
def c6 (g:G) (t:TE):Nat→List Int→Option (List Int)
 |0,w1=>
  some w1
 |n1+1,w1=>
  lP ([(-1)]) fun(l2:List Int)=>
  gd (((w1.length+l2.length)*8≤70368744177664))<|
  lP (w1++l2) fun(l3:List Int)=>
  c6 g t n1 l3
def gV (g:G) (t:TE) (a0:Network) (a1:Fd) (a2:ByteArray) (a3:Int) (a4:Int):Option (List Int):=
 cl (eo g t a0) fun x1=>
 lP (cJ g t x1 a2) fun x2=>
 br (g.lt x2 0)
 (
  some [])
 (
  br (g.lt 100000 a3)
  (
   some [])
  (
   br (g.lt a4 0)
   (
    some [])
   (
    lP ([]) fun(l1:List Int)=>
    gd (((g.int (g.dlen (t.d_S x1)))≤9223372036854775807))<|
    cl (c6 g t (ap 0 (g.int (g.dlen (t.d_S x1)))) l1) fun y1=>
    gd (((0:Int)≤x2∧x2<(((g.dlen (t.d_I64 y1)):Nat):Int)))<|
    gt y1 (g.nat x2) fun x3=>
    lP (List.set y1 (g.nat x2) (g.imax a3 0)) fun(l4:List Int)=>
    gd ((a4≤9223372036854775807))<|
    cl (c7 g t a0 a1 x1 x2 (ap 0 a4) l4) fun y3=>
    some y3)))
theorem vy {g:G} {t:TE} {a0:Network} {a1:Fd} {a2:ByteArray} {a3:Int} {a4:Int} {r:List Int} (hg:g=G.real) (ht:t=TE.real) (h:gV g t a0 a1 a2 a3 a4=some r):Fn Tryz.prog 109 [.g (Network.rs t a0),.c (t.r_Fd a1),.c (.v (.string a2)),.c (.v (.int .i64 a3)),.c (.v (.int .i64 a4))] (.c (.o 1 (t.d_I64 r))):=by
 obtain⟨X,hX⟩:=aC (.c (.o 1 (t.d_I64 r)):X);rw[←hX];refine aA (rvs:=HI) (j:=H5) Tryz.func109 rfl (by kernel_rfl) (nb rfl) (by kernel_rfl) af ?_;intro g2 F hg2 hF;obtain rfl:g2=g:=hg2.unique.trans hg.symm;clear hg2;obtain⟨wrap,lt,_,_,_,_,_,_,_,_,_,_,int,add,_,_,_,_,_,_,_,llen,_,_,dlen,_,_,_,rd,_,_,_,_,_,_,_,_,_,_,_,_,imax⟩:=g2;obtain⟨_,_,_,_,r_Leg,_,r_I64,d_I64,_,_,_,_,r_S,d_S,_,_,r_Fd⟩:=t
 obtain⟨a0_Legs,a0_Off,a0_Change⟩:=a0;have hnil_I64:d_I64 []=[]:=oW ht;unfold gV at h;try dsimp only at h
 cbv;obtain⟨x1,hx1,h⟩:=ae h;try dsimp only at h
 refine ACall.mk _ _ rfl (hF _ _ _ (iD hg ht hx1)) (.inl rfl) (nb rfl) ?_;cbv;refine AStep.mk (fv ht (ar hg ht _)) ?_;cbv;obtain⟨x2,hx2,h⟩:=ah h;try dsimp only at h
 refine ACall.mk _ _ (by rw[show rd (d_S x1) 0 (dlen (d_S x1))=r_S x1 from iC hg ht (ar hg ht _)];try rfl) (hF _ _ _ (fW hg ht hx2)) (.inr rfl) (nb rfl) ?_
 cbv
 cases hb1:(lt x2 0)
 rotate_left
 ·rw[ab hb1] at h;cbv;iterate 2 try(rw[hb1];cbv)
  obtain rfl:=Option.some.inj h;exact ARet.mk trivial (by rw[hX];first|rfl|(simp only[Trip.ds,Scan.ds,Leg.ds,Network.ds,Booking.ds,Belief.ds,Cur.ds,Spot.ds,Know.ds,hnil_I64];try rfl))
 rw[aa hb1] at h;cbv;iterate 2 try(rw[hb1];cbv)
 cases hb2:(lt 100000 a3)
 rotate_left
 ·rw[ab hb2] at h;cbv;iterate 2 try(rw[hb2];cbv)
  obtain rfl:=Option.some.inj h;exact ARet.mk trivial (by rw[hX];first|rfl|(simp only[Trip.ds,Scan.ds,Leg.ds,Network.ds,Booking.ds,Belief.ds,Cur.ds,Spot.ds,Know.ds,hnil_I64];try rfl))
 rw[aa hb2] at h;cbv;iterate 2 try(rw[hb2];cbv)
 cases hb3:(lt a4 0)
 rotate_left
 ·rw[ab hb3] at h;cbv;obtain rfl:=Option.some.inj h;exact ARet.mk trivial (by rw[hX];first|rfl|(simp only[Trip.ds,Scan.ds,Leg.ds,Network.ds,Booking.ds,Belief.ds,Cur.ds,Spot.ds,Know.ds,hnil_I64];try rfl))
 rw[aa hb3] at h;cbv;obtain⟨l1,hl1,h⟩:=ah h;try dsimp only at h
 refine ANew.mk (d_I64 l1) (dlen (d_I64 l1)) (by rw[←hl1];exact cS hg ht []) (by rw[←hl1];exact co hg ht []) ?_;cbv;obtain⟨hB1,h⟩:=ak h;obtain⟨o1,ho1,h⟩:=ae h;try dsimp only at h
 try rw[hg] at ho1
 try rw[ht] at ho1
 refine ABL.mk {p:Nat×Int×List Int//p.1=ap p.2.1 (int (dlen (d_S x1)))∧0≤p.2.1∧c6 G.real TE.real p.1 p.2.2=some o1} (fun⟨⟨n1,v1,w1⟩,_⟩=>({sl:=[(1,.c (.r (r_Fd a1))),(3,.c (.r (.v (.int .i64 a3)))),(4,.c (.r (.v (.int .i64 a4)))),(5,.c (.p 0 3 0 0)),(11,.c (.f 1 1 0 (dlen (d_S x1)))),(12,.c (.r (.v (.int .i64 x2)))),(13,.c (.f 2 1 0 (dlen (d_I64 w1)))),(40,.c (.r (.v (.int .i64 (int (dlen (d_S x1))))))),(41,.c (.r (.v (.int .i64 v1))))],tab:=[(0,some (.foc 3 [] [.r (.s 6 (r_Leg a0_Legs)),.r (.s 1 (r_I64 a0_Off)),.r (.v (.int .i64 a0_Change))] [])),(1,some (.arr 1 (d_S x1))),(2,some (.arr 1 (d_I64 w1)))]}:St)) 3 (fun p=>p.1.1) ⟨(ap 0 (int (dlen (d_S x1))),0,l1),rfl,Int.le_refl _,ho1⟩ (List Int) (fun y1=>({sl:=[(1,.c (.r (r_Fd a1))),(3,.c (.r (.v (.int .i64 a3)))),(4,.c (.r (.v (.int .i64 a4)))),(5,.c (.p 0 3 0 0)),(11,.c (.f 1 1 0 (dlen (d_S x1)))),(12,.c (.r (.v (.int .i64 x2)))),(13,.c (.f 2 1 0 (dlen (d_I64 y1))))],tab:=[(0,some (.foc 3 [] [.r (.s 6 (r_Leg a0_Legs)),.r (.s 1 (r_I64 a0_Off)),.r (.v (.int .i64 a0_Change))] [])),(1,some (.arr 1 (d_S x1))),(2,some (.arr 1 (d_I64 y1)))]}:St)) 3 (fun y=>o1=y) ?_ ?_ ?_
 ·refine Wk.of [(0,some 0),(1,some 48),(2,some 304)] rfl rfl ?_ ?_
  ·cbv;all_goals exact⟨⟨_,rfl,rfl⟩,⟨_,rfl,rfl⟩,⟨_,rfl,rfl⟩,⟨_,rfl,rfl⟩,⟨_,rfl,rfl⟩,⟨_,rfl,rfl⟩,⟨_,rfl,rfl⟩,⟨_,rfl,rfl⟩,⟨_,rfl,rfl⟩,trivial⟩
  cbv;all_goals exact⟨⟨_,rfl,_,rfl,rfl,rfl,rfl,trivial⟩,⟨_,rfl,rfl⟩,⟨_,rfl,rfl⟩,trivial⟩
 ·rintro⟨⟨n1,v1,w1⟩,hn1,hi1,h_1⟩ hq1;try dsimp only at hn1 hi1 h_1
  clear hq1;cbv;rcases n1 with _|n1
  ·have hb4:lt v1 (int (dlen (d_S x1)))=false:=ba hg hn1;rw[c6] at h_1;try rw[←hg] at h_1
   try rw[←ht] at h_1
   try dsimp only at h_1
   rw[hb4];cbv;refine⟨w1,Wk.of [(0,some 0),(1,some 1),(2,some 2)] rfl rfl ?_ ?_,(Option.some.inj h_1).symm⟩
   ·cbv;all_goals exact⟨⟨_,rfl,rfl⟩,⟨_,rfl,rfl⟩,⟨_,rfl,rfl⟩,⟨_,rfl,rfl⟩,⟨_,rfl,rfl⟩,⟨_,rfl,rfl⟩,⟨_,rfl,rfl⟩,trivial⟩
   cbv;all_goals exact⟨⟨_,rfl,_,rfl,rfl,rfl,rfl,trivial⟩,⟨_,rfl,rfl⟩,⟨_,rfl,rfl⟩,trivial⟩
  have hb4:lt v1 (int (dlen (d_S x1)))=true:=bt hg hn1;have hl1:=cR hn1;have hs1:=bS hg hn1 hi1 hB1 (by decide);rw[c6] at h_1;try rw[←hg] at h_1
  try rw[←ht] at h_1
  try dsimp only at h_1
  rw[hb4];cbv;obtain⟨l2,hl2,h_1⟩:=ah h_1;try dsimp only at h_1
  refine ANew.mk (d_I64 l2) (dlen (d_I64 l2)) (by rw[←hl2];exact cS hg ht [(-1)]) (by rw[←hl2];exact co hg ht [(-1)]) ?_;cbv;obtain⟨hc1,h_1⟩:=ak h_1;refine AStep.mk ⟨⟨rfl,(al hg ht _)⟩,(fM hg ht (al hg ht _) rfl hc1)⟩ ?_;cbv;obtain⟨l3,hl3,h_1⟩:=ah h_1;try dsimp only at h_1
  refine ANew.mk (d_I64 l3) (dlen (d_I64 l3)) (by rw[←hl3];exact kN hg ht (al hg ht _) rfl) (by rw[←hl3];exact je hg ht (al hg ht _) rfl) ?_;cbv;try rw[hg] at h_1
  try rw[ht] at h_1
  refine⟨⟨(n1,(wrap .i64 (add v1 1)),l3),hs1.1,hs1.2,h_1⟩,Wk.of [(0,some 0),(1,some 1),(2,some 51)] rfl rfl ?_ ?_,Nat.lt_succ_self _⟩
  ·cbv;all_goals exact⟨⟨_,rfl,rfl⟩,⟨_,rfl,rfl⟩,⟨_,rfl,rfl⟩,⟨_,rfl,rfl⟩,⟨_,rfl,rfl⟩,⟨_,rfl,rfl⟩,⟨_,rfl,rfl⟩,⟨_,rfl,rfl⟩,⟨_,rfl,rfl⟩,trivial⟩
  cbv;all_goals exact⟨⟨_,rfl,_,rfl,rfl,rfl,rfl,trivial⟩,⟨_,rfl,rfl⟩,⟨_,rfl,rfl⟩,trivial⟩
 rintro y1 hy1;replace hy1:=hy1.symm;subst hy1;try dsimp only[lr,lrL,lrp,aZ] at h
 cbv;obtain⟨hc2,h⟩:=ak h;refine AStep.mk hc2 ?_;cbv;obtain⟨x3,hx3,h⟩:=aE h;try dsimp only at h
 refine AGet.mk _ (bB hg ht hx3) ?_;cbv;obtain⟨l4,hl4,h⟩:=ah h;try dsimp only at h
 refine ANew.mk (d_I64 l4) _ (by rw[←hl4];exact lB hg ht _ _ (imax a3 0)) rfl ?_;have hnl4:(dlen (d_I64 y1))=(d_I64 l4).length:=(by rw[←hl4,kb ht];exact(al hg ht _));cbv;obtain⟨hB2,h⟩:=ak h;obtain⟨o2,ho2,h⟩:=ae h;try dsimp only at h
 try rw[hg] at ho2
 try rw[ht] at ho2
 refine ABL.mk {p:Nat×Int×List Int//p.1=ap p.2.1 a4∧0≤p.2.1∧c7 G.real TE.real (Network.mk a0_Legs a0_Off a0_Change) a1 x1 x2 p.1 p.2.2=some o2} (fun⟨⟨n2,v2,w2⟩,_⟩=>({sl:=[(1,.c (.r (r_Fd a1))),(4,.c (.r (.v (.int .i64 a4)))),(5,.c (.p 0 3 0 0)),(11,.c (.f 1 1 0 (dlen (d_S x1)))),(12,.c (.r (.v (.int .i64 x2)))),(13,.c (.f 2 1 0 (dlen (d_I64 w2)))),(14,.c (.r (.v (.int .i64 v2))))],tab:=[(0,some (.foc 3 [] [.r (.s 6 (r_Leg a0_Legs)),.r (.s 1 (r_I64 a0_Off)),.r (.v (.int .i64 a0_Change))] [])),(1,some (.arr 1 (d_S x1))),(2,some (.arr 1 (d_I64 w2)))]}:St)) 3 (fun p=>p.1.1) ⟨(ap 0 a4,0,l4),rfl,Int.le_refl _,ho2⟩ (List Int) (fun y3=>({sl:=[(13,.c (.f 0 1 0 (dlen (d_I64 y3))))],tab:=[(0,some (.arr 1 (d_I64 y3)))]}:St)) 1 (fun y=>o2=y) ?_ ?_ ?_
 ·refine Wk.of [(0,some 0),(1,some 1),(2,some 2)] rfl rfl ?_ ?_
  ·cbv;all_goals try rw[show(dlen (d_I64 y1))=(dlen (d_I64 l4)) from(hnl4).trans (al hg ht _).symm]
   all_goals exact⟨⟨_,rfl,rfl⟩,⟨_,rfl,rfl⟩,⟨_,rfl,rfl⟩,⟨_,rfl,rfl⟩,⟨_,rfl,rfl⟩,⟨_,rfl,rfl⟩,⟨_,rfl,rfl⟩,trivial⟩
  cbv;all_goals try rw[show(dlen (d_I64 y1))=(dlen (d_I64 l4)) from(hnl4).trans (al hg ht _).symm]
  all_goals exact⟨⟨_,rfl,_,rfl,rfl,rfl,rfl,trivial⟩,⟨_,rfl,rfl⟩,⟨_,rfl,rfl⟩,trivial⟩
 ·rintro⟨⟨n2,v2,w2⟩,hn2,hi2,h_2⟩ hq2;try dsimp only at hn2 hi2 h_2
  clear hq2;cbv;rcases n2 with _|n2
  ·have hb5:lt v2 a4=false:=ba hg hn2;rw[c7] at h_2;try rw[←hg] at h_2
   try rw[←ht] at h_2
   try dsimp only at h_2
   rw[hb5];cbv;refine⟨w2,Wk.of [(0,some 2)] rfl rfl ?_ ?_,(Option.some.inj h_2).symm⟩
   ·cbv;all_goals exact⟨⟨_,rfl,rfl⟩,trivial⟩
   cbv;all_goals exact⟨⟨_,rfl,rfl⟩,trivial⟩
  have hb5:lt v2 a4=true:=bt hg hn2;have hl2:=cR hn2;have hs2:=bS hg hn2 hi2 hB2 (by decide);rw[c7] at h_2;try rw[←hg] at h_2
  try rw[←ht] at h_2
  try dsimp only at h_2
  rw[hb5];cbv;obtain⟨l5,hl5,h_2⟩:=ah h_2;try dsimp only at h_2
  refine ANew.mk (d_I64 l5) (dlen (d_I64 l5)) (by rw[←hl5];exact cS hg ht []) (by rw[←hl5];exact co hg ht []) ?_;cbv;obtain⟨hc9,h_2⟩:=ak h_2;refine AStep.mk ⟨(wM hg ht (al hg ht _)),(fM hg ht (al hg ht _) (pt hg ht (al hg ht _)) hc9)⟩ ?_;cbv;obtain⟨l6,hl6,h_2⟩:=ah h_2;try dsimp only at h_2
  refine ANew.mk (d_I64 l6) (dlen (d_I64 l6)) (by rw[←hl6];exact kN hg ht (al hg ht _) (pt hg ht (al hg ht _))) (by rw[←hl6];exact je hg ht (al hg ht _) (pt hg ht (al hg ht _))) ?_;cbv;obtain⟨o3,ho3,h_2⟩:=ae h_2;try dsimp only at h_2
  try rw[hg] at ho3
  try rw[ht] at ho3
  refine ABL.mk {p:Nat×Int×(List Int)×Bool//p.1≤a0_Legs.length∧p.2.1=((p.1:Nat):Int)∧bx G.real TE.real (Network.mk a0_Legs a0_Off a0_Change) a1 w2 x1 x2 (List.drop p.1 a0_Legs) p.2.1 p.2.2.1 p.2.2.2=some o3} (fun⟨⟨k3,v4,w3,v3⟩,_⟩=>({sl:=[(1,.c (.r (r_Fd a1))),(4,.c (.r (.v (.int .i64 a4)))),(5,.c (.p 0 3 0 0)),(11,.c (.f 1 1 0 (dlen (d_S x1)))),(12,.c (.r (.v (.int .i64 x2)))),(13,.c (.f 2 1 0 (dlen (d_I64 w2)))),(14,.c (.r (.v (.int .i64 v2)))),(15,.c (.f 3 1 0 (dlen (d_I64 w3)))),(16,.c (.r (.v (.bool v3)))),(61,.c (.r (.s 6 (r_Leg a0_Legs)))),(62,.c (.r (.v (.int .i64 (llen (r_Leg a0_Legs)))))),(63,.c (.r (.v (.int .i64 v4))))],tab:=[(0,some (.foc 3 [] [.r (.s 6 (r_Leg a0_Legs)),.r (.s 1 (r_I64 a0_Off)),.r (.v (.int .i64 a0_Change))] [])),(1,some (.arr 1 (d_S x1))),(2,some (.arr 1 (d_I64 w2))),(3,some (.arr 1 (d_I64 w3)))]}:St)) 4 (fun p=>a0_Legs.length-p.1.1) ⟨(0,0,l6,false),Nat.zero_le _,rfl,ho3⟩ ((List Int)×Bool) (fun⟨y2_1,y2_2⟩=>({sl:=[(1,.c (.r (r_Fd a1))),(4,.c (.r (.v (.int .i64 a4)))),(5,.c (.p 0 3 0 0)),(11,.c (.f 1 1 0 (dlen (d_S x1)))),(12,.c (.r (.v (.int .i64 x2)))),(14,.c (.r (.v (.int .i64 v2)))),(15,.c (.f 2 1 0 (dlen (d_I64 y2_1)))),(16,.c (.r (.v (.bool y2_2))))],tab:=[(0,some (.foc 3 [] [.r (.s 6 (r_Leg a0_Legs)),.r (.s 1 (r_I64 a0_Off)),.r (.v (.int .i64 a0_Change))] [])),(1,some (.arr 1 (d_S x1))),(2,some (.arr 1 (d_I64 y2_1)))]}:St)) 3 (fun y=>o3=y) ?_ ?_ ?_
  ·refine Wk.of [(0,some 0),(1,some 1),(2,some 2),(3,some 83)] rfl rfl ?_ ?_
   ·cbv;all_goals exact⟨⟨_,rfl,rfl⟩,⟨_,rfl,rfl⟩,⟨_,rfl,rfl⟩,⟨_,rfl,rfl⟩,⟨_,rfl,rfl⟩,⟨_,rfl,rfl⟩,⟨_,rfl,rfl⟩,⟨_,rfl,rfl⟩,⟨_,rfl,rfl⟩,⟨_,rfl,rfl⟩,⟨_,rfl,rfl⟩,⟨_,rfl,rfl⟩,trivial⟩
   cbv;all_goals exact⟨⟨_,rfl,_,rfl,rfl,rfl,rfl,trivial⟩,⟨_,rfl,rfl⟩,⟨_,rfl,rfl⟩,⟨_,rfl,rfl⟩,trivial⟩
  ·rintro⟨⟨k3,v4,w3,v3⟩,hk3,hi3,h_3⟩ hq3;have hm3:=(hq3.1 61 _ _ rfl);try dsimp only at hk3 hi3 h_3
   clear hq3;cbv
   by_cases hc3_:k3<a0_Legs.length
   ·have hb6:lt v4 (llen (r_Leg a0_Legs))=true:=eZ hg ht hi3 hc3_;have hs3:=iL hg ht hi3 hc3_ hm3;obtain⟨z3,hz3⟩:=aX hc3_;rw[aH hz3] at h_3;rw[bx] at h_3;obtain⟨z3_From,z3_To,z3_Start,z3_Takes,z3_Days,z3_Room⟩:=z3;try rw[←hg] at h_3
    try rw[←ht] at h_3
    try dsimp only at h_3
    rw[hb6];cbv;refine AStep.mk (fP hi3) ?_;cbv;refine AGet.mk _ (eT hg ht hi3 hz3) ?_;cbv;refine AStep.mk (fv ht (ar hg ht _)) ?_;cbv;obtain⟨x4,hx4,h_3⟩:=ah h_3;try dsimp only at h_3
    refine ACall.mk _ _ (by rw[show rd (d_S x1) 0 (dlen (d_S x1))=r_S x1 from iC hg ht (ar hg ht _)];try rfl) (hF _ _ _ (fW hg ht hx4)) (.inr rfl) (nb rfl) ?_
    cbv;refine AStep.mk (fv ht (ar hg ht _)) ?_;cbv;obtain⟨x5,hx5,h_3⟩:=ah h_3;try dsimp only at h_3
    refine ACall.mk _ _ (by rw[show rd (d_S x1) 0 (dlen (d_S x1))=r_S x1 from iC hg ht (ar hg ht _)];try rfl) (hF _ _ _ (fW hg ht hx5)) (.inr rfl) (nb rfl) ?_
    cbv;obtain⟨hc3,h_3⟩:=ak h_3;refine AStep.mk hc3 ?_;cbv;obtain⟨x6,hx6,h_3⟩:=aE h_3;try dsimp only at h_3
    refine AGet.mk _ (bB hg ht hx6) ?_;cbv
    cases hb7:(lt x6 0)
    rotate_left
    ·rw[ab hb7] at h_3;cbv;try rw[hg] at h_3
     try rw[ht] at h_3
     refine⟨⟨(k3+1,(wrap .i64 (add v4 1)),w3,v3),hc3_,hs3,h_3⟩,Wk.of [(0,some 0),(1,some 1),(2,some 2),(3,some 3)] rfl rfl ?_ ?_,bc hc3_⟩
     ·cbv;all_goals exact⟨⟨_,rfl,rfl⟩,⟨_,rfl,rfl⟩,⟨_,rfl,rfl⟩,⟨_,rfl,rfl⟩,⟨_,rfl,rfl⟩,⟨_,rfl,rfl⟩,⟨_,rfl,rfl⟩,⟨_,rfl,rfl⟩,⟨_,rfl,rfl⟩,⟨_,rfl,rfl⟩,⟨_,rfl,rfl⟩,⟨_,rfl,rfl⟩,trivial⟩
     cbv;all_goals exact⟨⟨_,rfl,_,rfl,rfl,rfl,rfl,trivial⟩,⟨_,rfl,rfl⟩,⟨_,rfl,rfl⟩,⟨_,rfl,rfl⟩,trivial⟩
    rw[aa hb7] at h_3;cbv;obtain⟨hc4,h_3⟩:=ak h_3;refine AStep.mk hc4 ?_;cbv;refine AGet.mk _ (bB hg ht hx6) ?_;cbv;obtain⟨x7,hx7,h_3⟩:=ah h_3;try dsimp only at h_3
    refine ACall.mk _ _ rfl (hF _ _ _ (w6 hg ht hx7)) (.inl rfl) (nb rfl) ?_;cbv;obtain⟨x8,hx8,h_3⟩:=ae h_3;obtain⟨⟨x8_1_Leg,x8_1_Day⟩,x8_2⟩:=x8;try dsimp only at h_3
    obtain⟨f_,bs_,hr_,hc_⟩:=C4 hg ht hx8;refine ACallV.mk f_ bs_ _ _ hr_ rfl (hF _ _ _ hc_) (.inl rfl) (nb rfl) ?_;clear hr_ hc_;cbv;have hb8:x8_2=true∨x8_2=false:=by cases x8_2<;>simp
    rcases hb8 with hb8|hb8
    ·rw[ab hb8] at h_3;have hK_:=h_3;subst hb8;have h_3:=hK_;clear hK_;cbv;iterate 2 try(rw[hb8];cbv)
     obtain⟨hc5,h_3⟩:=ak h_3;refine AStep.mk hc5 ?_;cbv;try(rw[hb8];cbv)
     obtain⟨x9,hx9,h_3⟩:=aE h_3;try dsimp only at h_3
     refine AGet.mk _ (bB hg ht hx9) ?_;cbv;iterate 2 try(rw[hb8];cbv)
     cases hb9:(lt x9 0)
     rotate_left
     ·rw[ab hb9] at h_3;cbv;iterate 7 try(rw[hb9];cbv)
      try(rw[hb8];cbv)
      try(rw[hb9];cbv)
      try(rw[hb8];cbv)
      obtain⟨x10,hx10,h_3⟩:=ae h_3;try dsimp only at h_3
      refine ACall.mk _ _ rfl (hF _ _ _ (lO hg ht hx10)) (.inl rfl) (nb rfl) ?_;cbv;obtain⟨hc6,h_3⟩:=ak h_3;refine AStep.mk hc6 ?_;cbv;refine AGet.mk _ (bB hg ht hx9) ?_;cbv;obtain⟨l7,hl7,h_3⟩:=ah h_3;try dsimp only at h_3
      refine ANew.mk (d_I64 l7) _ (by rw[←hl7];exact lB hg ht _ _ x10) rfl ?_;have hnl7:(dlen (d_I64 w3))=(d_I64 l7).length:=(by rw[←hl7,kb ht];exact(al hg ht _));cbv;try rw[hg] at h_3
      try rw[ht] at h_3
      refine⟨⟨(k3+1,(wrap .i64 (add v4 1)),l7,true),hc3_,hs3,h_3⟩,Wk.of [(0,some 0),(1,some 1),(2,some 2),(3,some 3)] rfl rfl ?_ ?_,bc hc3_⟩
      ·cbv;all_goals try rw[show(dlen (d_I64 w3))=(dlen (d_I64 l7)) from(hnl7).trans (al hg ht _).symm]
       all_goals exact⟨⟨_,rfl,rfl⟩,⟨_,rfl,rfl⟩,⟨_,rfl,rfl⟩,⟨_,rfl,rfl⟩,⟨_,rfl,rfl⟩,⟨_,rfl,rfl⟩,⟨_,rfl,rfl⟩,⟨_,rfl,rfl⟩,⟨_,rfl,rfl⟩,⟨_,rfl,rfl⟩,⟨_,rfl,rfl⟩,⟨_,rfl,rfl⟩,trivial⟩
      cbv;all_goals try rw[show(dlen (d_I64 w3))=(dlen (d_I64 l7)) from(hnl7).trans (al hg ht _).symm]
      all_goals exact⟨⟨_,rfl,_,rfl,rfl,rfl,rfl,trivial⟩,⟨_,rfl,rfl⟩,⟨_,rfl,rfl⟩,⟨_,rfl,rfl⟩,trivial⟩
     rw[aa hb9] at h_3;cbv;iterate 2 try(rw[hb9];cbv)
     obtain⟨x11,hx11,h_3⟩:=ae h_3;try dsimp only at h_3
     refine ACall.mk _ _ rfl (hF _ _ _ (lO hg ht hx11)) (.inl rfl) (nb rfl) ?_;cbv;iterate 3 try(rw[hb9];cbv)
     obtain⟨hc7,h_3⟩:=ak h_3;refine AStep.mk hc7 ?_;cbv;try(rw[hb9];cbv)
     refine AGet.mk _ (bB hg ht hx9) ?_;cbv;try(rw[hb9];cbv)
     try(rw[hb8];cbv)
     try(rw[hb9];cbv)
     try(rw[hb8];cbv)
     cases hb10:(lt x11 x9)
     ·rw[aa hb10] at h_3;cbv;try rw[hg] at h_3
      try rw[ht] at h_3
      refine⟨⟨(k3+1,(wrap .i64 (add v4 1)),w3,v3),hc3_,hs3,h_3⟩,Wk.of [(0,some 0),(1,some 1),(2,some 2),(3,some 3)] rfl rfl ?_ ?_,bc hc3_⟩
      ·cbv;all_goals exact⟨⟨_,rfl,rfl⟩,⟨_,rfl,rfl⟩,⟨_,rfl,rfl⟩,⟨_,rfl,rfl⟩,⟨_,rfl,rfl⟩,⟨_,rfl,rfl⟩,⟨_,rfl,rfl⟩,⟨_,rfl,rfl⟩,⟨_,rfl,rfl⟩,⟨_,rfl,rfl⟩,⟨_,rfl,rfl⟩,⟨_,rfl,rfl⟩,trivial⟩
      cbv;all_goals exact⟨⟨_,rfl,_,rfl,rfl,rfl,rfl,trivial⟩,⟨_,rfl,rfl⟩,⟨_,rfl,rfl⟩,⟨_,rfl,rfl⟩,trivial⟩
     rw[ab hb10] at h_3;cbv;obtain⟨x12,hx12,h_3⟩:=ae h_3;try dsimp only at h_3
     refine ACall.mk _ _ rfl (hF _ _ _ (lO hg ht hx12)) (.inl rfl) (nb rfl) ?_;cbv;obtain⟨hc8,h_3⟩:=ak h_3;refine AStep.mk hc8 ?_;cbv;refine AGet.mk _ (bB hg ht hx9) ?_;cbv;obtain⟨l8,hl8,h_3⟩:=ah h_3;try dsimp only at h_3
     refine ANew.mk (d_I64 l8) _ (by rw[←hl8];exact lB hg ht _ _ x12) rfl ?_;have hnl8:(dlen (d_I64 w3))=(d_I64 l8).length:=(by rw[←hl8,kb ht];exact(al hg ht _));cbv;try rw[hg] at h_3
     try rw[ht] at h_3
     refine⟨⟨(k3+1,(wrap .i64 (add v4 1)),l8,true),hc3_,hs3,h_3⟩,Wk.of [(0,some 0),(1,some 1),(2,some 2),(3,some 3)] rfl rfl ?_ ?_,bc hc3_⟩
     ·cbv;all_goals try rw[show(dlen (d_I64 w3))=(dlen (d_I64 l8)) from(hnl8).trans (al hg ht _).symm]
      all_goals exact⟨⟨_,rfl,rfl⟩,⟨_,rfl,rfl⟩,⟨_,rfl,rfl⟩,⟨_,rfl,rfl⟩,⟨_,rfl,rfl⟩,⟨_,rfl,rfl⟩,⟨_,rfl,rfl⟩,⟨_,rfl,rfl⟩,⟨_,rfl,rfl⟩,⟨_,rfl,rfl⟩,⟨_,rfl,rfl⟩,⟨_,rfl,rfl⟩,trivial⟩
     cbv;all_goals try rw[show(dlen (d_I64 w3))=(dlen (d_I64 l8)) from(hnl8).trans (al hg ht _).symm]
     all_goals exact⟨⟨_,rfl,_,rfl,rfl,rfl,rfl,trivial⟩,⟨_,rfl,rfl⟩,⟨_,rfl,rfl⟩,⟨_,rfl,rfl⟩,trivial⟩
    rw[aa hb8] at h_3;have hK_:=h_3;subst hb8;have h_3:=hK_;clear hK_;cbv;iterate 7 try(rw[hb8];cbv)
    try rw[hg] at h_3
    try rw[ht] at h_3
    refine⟨⟨(k3+1,(wrap .i64 (add v4 1)),w3,v3),hc3_,hs3,h_3⟩,Wk.of [(0,some 0),(1,some 1),(2,some 2),(3,some 3)] rfl rfl ?_ ?_,bc hc3_⟩
    ·cbv;all_goals exact⟨⟨_,rfl,rfl⟩,⟨_,rfl,rfl⟩,⟨_,rfl,rfl⟩,⟨_,rfl,rfl⟩,⟨_,rfl,rfl⟩,⟨_,rfl,rfl⟩,⟨_,rfl,rfl⟩,⟨_,rfl,rfl⟩,⟨_,rfl,rfl⟩,⟨_,rfl,rfl⟩,⟨_,rfl,rfl⟩,⟨_,rfl,rfl⟩,trivial⟩
    cbv;all_goals exact⟨⟨_,rfl,_,rfl,rfl,rfl,rfl,trivial⟩,⟨_,rfl,rfl⟩,⟨_,rfl,rfl⟩,⟨_,rfl,rfl⟩,trivial⟩
   have hb6:lt v4 (llen (r_Leg a0_Legs))=false:=eG hg ht hi3 hc3_;rw[List.drop_of_length_le (Nat.le_of_not_lt hc3_)] at h_3;rw[bx] at h_3;try rw[←hg] at h_3
   try rw[←ht] at h_3
   try dsimp only at h_3
   rw[hb6];cbv;refine⟨(w3,v3),Wk.of [(0,some 0),(1,some 1),(2,some 3)] rfl rfl ?_ ?_,(Option.some.inj h_3).symm⟩
   ·cbv;all_goals exact⟨⟨_,rfl,rfl⟩,⟨_,rfl,rfl⟩,⟨_,rfl,rfl⟩,⟨_,rfl,rfl⟩,⟨_,rfl,rfl⟩,⟨_,rfl,rfl⟩,⟨_,rfl,rfl⟩,⟨_,rfl,rfl⟩,trivial⟩
   cbv;all_goals exact⟨⟨_,rfl,_,rfl,rfl,rfl,rfl,trivial⟩,⟨_,rfl,rfl⟩,⟨_,rfl,rfl⟩,trivial⟩
  rintro⟨y2_1,y2_2⟩ hy3;replace hy3:=hy3.symm;subst hy3;try dsimp only[lr,lrL,lrp,aZ] at h_2
  cbv
  cases hb11:y2_2
  ·rw[aa hb11] at h_2;cbv;refine⟨y2_1,Wk.of [(0,some 2)] rfl rfl ?_ ?_,(Option.some.inj h_2).symm⟩
   ·cbv;all_goals exact⟨⟨_,rfl,rfl⟩,trivial⟩
   cbv;all_goals exact⟨⟨_,rfl,rfl⟩,trivial⟩
  rw[ab hb11] at h_2;cbv;try rw[hg] at h_2
  try rw[ht] at h_2
  refine⟨⟨(n2,(wrap .i64 (add v2 1)),y2_1),hs2.1,hs2.2,h_2⟩,Wk.of [(0,some 0),(1,some 1),(2,some 2)] rfl rfl ?_ ?_,Nat.lt_succ_self _⟩
  ·cbv;all_goals exact⟨⟨_,rfl,rfl⟩,⟨_,rfl,rfl⟩,⟨_,rfl,rfl⟩,⟨_,rfl,rfl⟩,⟨_,rfl,rfl⟩,⟨_,rfl,rfl⟩,⟨_,rfl,rfl⟩,trivial⟩
  cbv;all_goals exact⟨⟨_,rfl,_,rfl,rfl,rfl,rfl,trivial⟩,⟨_,rfl,rfl⟩,⟨_,rfl,rfl⟩,trivial⟩
 rintro y3 hy2;replace hy2:=hy2.symm;subst hy2;try dsimp only[lr,lrL,lrp,aZ] at h
 cbv;obtain rfl:=Option.some.inj h;exact ARet.mk ⟨rfl,(al hg ht _)⟩ hX.symm
def ir83:J:=js [jq 4 (.box 0),jq 8 (.mv (.k (.c (.n 1))))] [1,2,3,4] (.seq (js [jl 9 3 4,jc 10 54 [9],jq 11 (.not 10)] [1,2,3,4,11] (.cond 11 (js [jq 8 (.mv (.k (.c (.n 1))))] [8] .ret) .skip)) (.seq (.reg (some [[],[],[1],[],[],[],[0,1,2,3,4,5],[0,1,2,3,4,5,6]]) [jl 12 3 4,jl 13 3 4,jc 14 56 [13],jm 15 1,jm 16 2,jm 17 3,jc 18 109 [12,14,15,16,17],jm 8 18] [8]) .ret))
def rv83:List RV:=[.t 8]
def dc (g:G) (t:TE) (a0:Network) (a1:ByteArray) (a2:Int) (a3:Int):Option (List Int):=
 cl (dF g t a0) fun x1=>
 br x1
 (
  lP (jW g t a0) fun x2=>
  cl (gV g t a0 x2 a1 a2 a3) fun x3=>
  some x3)
 (
  some [])
theorem pi {g:G} {t:TE} {a0:Network} {a1:ByteArray} {a2:Int} {a3:Int} {r:List Int} (hg:g=G.real) (ht:t=TE.real) (h:dc g t a0 a1 a2 a3=some r):Fn Tryz.prog 83 [.g (Network.rs t a0),.c (.v (.string a1)),.c (.v (.int .i64 a2)),.c (.v (.int .i64 a3))] (.c (.o 1 (t.d_I64 r))):=by
 obtain⟨X,hX⟩:=aC (.c (.o 1 (t.d_I64 r)):X);rw[←hX];refine aA (rvs:=rv83) (j:=ir83) Tryz.func83 rfl (by kernel_rfl) (nb rfl) (by kernel_rfl) af ?_;intro g2 F hg2 hF;obtain rfl:g2=g:=hg2.unique.trans hg.symm;clear hg2;obtain⟨_⟩:=g2;obtain⟨_,_,_,_,_,_,_,d_I64⟩:=t
 obtain⟨a0_Legs,a0_Off,a0_Change⟩:=a0;have hnil_I64:d_I64 []=[]:=oW ht;unfold dc at h;try dsimp only at h
 cbv;obtain⟨x1,hx1,h⟩:=ae h;try dsimp only at h
 refine ACall.mk _ _ rfl (hF _ _ _ (jI hg ht hx1)) (.inl rfl) (nb rfl) ?_;cbv
 cases hb1:x1
 ·rw[aa hb1] at h;cbv;obtain rfl:=Option.some.inj h;exact ARet.mk trivial (by rw[hX];first|rfl|(simp only[Trip.ds,Scan.ds,Leg.ds,Network.ds,Booking.ds,Belief.ds,Cur.ds,Spot.ds,Know.ds,hnil_I64];try rfl))
 rw[ab hb1] at h;cbv;obtain⟨x2,hx2,h⟩:=ah h;try dsimp only at h
 refine ACall.mk _ _ rfl (hF _ _ _ (yP hg ht hx2)) (.inl rfl) (nb rfl) ?_;cbv;obtain⟨x3,hx3,h⟩:=ae h;try dsimp only at h
 refine ACall.mk _ _ rfl (hF _ _ _ (vy hg ht hx3)) (.inl rfl) (nb rfl) ?_;cbv;obtain rfl:=Option.some.inj h;exact ARet.mk ⟨rfl,(al hg ht _)⟩ hX.symm
def ir29:J:=js [jq 4 (.box 0),jm 8 (ki 0)] [1,2,3,4] (js [jl 12 3 4,jc 13 82 [12],jm 9 13] [1,2,3,4,9] (js [jl 14 3 4,jm 15 1,jm 16 3,jm 17 9,jq 18 (.len false 17),jc 19 83 [14,15,16,18],jm 10 19] [2,9,10] (js [jm 20 9,jm 21 2,jc 22 84 [20,21],jm 11 22] [10,11] (.seq (js [jm 23 11,jb 24 .lss .i 23 (ki 0),jm 25 24,jv 26 25 (.mv 10),jv 27 25 (.len false 26),jv 28 25 (.bin .eql .i 27 (ki 0)),jq 29 (.pick 25 kt 28)] [10,11,29] (.cond 29 (js [jq 8 (.mv (.k (V.i (-1))))] [8] .ret) .skip)) (js [jm 30 10,jm 31 11,ja 32 1 30 31,jk 33 32,jm 8 33] [8] .ret)))))
def rv29:List RV:=[.t 8]
def gp (g:G) (t:TE) (a0:Network) (a1:ByteArray) (a2:ByteArray) (a3:Int):Option Int:=
 cl (eo g t a0) fun x1=>
 cl (dc g t a0 a1 a3 (g.int (g.dlen (t.d_S x1)))) fun x2=>
 lP (cJ g t x1 a2) fun x3=>
 br (g.lt x3 0)
 (
  some (-1))
 (
  br (g.eq (g.int (g.dlen (t.d_I64 x2))) 0)
  (
   some (-1))
  (
   gd (((0:Int)≤x3∧x3<(((g.dlen (t.d_I64 x2)):Nat):Int)))<|
   gt x2 (g.nat x3) fun x4=>
   some x4))
theorem so {g:G} {t:TE} {a0:Network} {a1:ByteArray} {a2:ByteArray} {a3:Int} {r:Int} (hg:g=G.real) (ht:t=TE.real) (h:gp g t a0 a1 a2 a3=some r):Fn Tryz.prog 29 [.g (Network.rs t a0),.c (.v (.string a1)),.c (.v (.string a2)),.c (.v (.int .i64 a3))] (.c (.r (.v (.int .i64 r)))):=by
 obtain⟨X,hX⟩:=aC (.c (.r (.v (.int .i64 r))):X);rw[←hX];refine aA (rvs:=rv29) (j:=ir29) Tryz.func29 rfl (by kernel_rfl) (nb rfl) (by kernel_rfl) af ?_;intro g2 F hg2 hF;obtain rfl:g2=g:=hg2.unique.trans hg.symm;clear hg2;obtain⟨_,lt,_,eq,_,_,_,_,_,_,_,_,int,_,_,_,_,_,_,_,_,_,_,_,dlen,_,_,_,rd⟩:=g2;obtain⟨_,_,_,_,_,_,_,d_I64,_,_,_,_,r_S,d_S⟩:=t
 obtain⟨a0_Legs,a0_Off,a0_Change⟩:=a0;unfold gp at h;try dsimp only at h
 cbv;obtain⟨x1,hx1,h⟩:=ae h;try dsimp only at h
 refine ACall.mk _ _ rfl (hF _ _ _ (iD hg ht hx1)) (.inl rfl) (nb rfl) ?_;cbv;obtain⟨x2,hx2,h⟩:=ae h;try dsimp only at h
 refine ACall.mk _ _ rfl (hF _ _ _ (pi hg ht hx2)) (.inl rfl) (nb rfl) ?_;cbv;refine AStep.mk (fv ht (ar hg ht _)) ?_;cbv;obtain⟨x3,hx3,h⟩:=ah h;try dsimp only at h
 refine ACall.mk _ _ (by rw[show rd (d_S x1) 0 (dlen (d_S x1))=r_S x1 from iC hg ht (ar hg ht _)];try rfl) (hF _ _ _ (fW hg ht hx3)) (.inr rfl) (nb rfl) ?_
 cbv
 cases hb1:(lt x3 0)
 rotate_left
 ·rw[ab hb1] at h;cbv;iterate 3 try(rw[hb1];cbv)
  obtain rfl:=Option.some.inj h;exact ARet.mk trivial hX.symm
 rw[aa hb1] at h;cbv;iterate 3 try(rw[hb1];cbv)
 cases hb2:(eq (int (dlen (d_I64 x2))) 0)
 rotate_left
 ·rw[ab hb2] at h;cbv;obtain rfl:=Option.some.inj h;exact ARet.mk trivial hX.symm
 rw[aa hb2] at h;cbv;obtain⟨hc1,h⟩:=ak h;refine AStep.mk hc1 ?_;cbv;obtain⟨x4,hx4,h⟩:=aE h;try dsimp only at h
 refine AGet.mk _ (bB hg ht hx4) ?_;cbv;obtain rfl:=Option.some.inj h;exact ARet.mk trivial hX.symm
def GI:J:=js [jq 3 (.box 0),jq 4 (.box 1),jq 5 (.box 2),jm 6 kf] [3,4,5] (.seq (js [jf 8 0 4,jk 9 8,jf 10 0 5,jk 11 10,jb 12 .eql .s 9 11] [3,4,5,12] (.cond 12 (js [jf 13 1 4,jk 14 13,jf 15 1 5,jk 16 15,jb 17 .leq .i 14 16,jm 6 17] [6] .ret) .skip)) (js [jl 18 3 3,jf 19 0 4,jk 20 19,jf 21 0 5,jk 22 21,jf 23 1 4,jk 24 23,jc 25 29 [18,20,22,24],jm 7 25] [5,7] (js [jm 26 7,jq 27 (.bin .neq .i 26 (.k (V.i (-1)))),jm 28 27,ju 29 28 (.mv 7),ju 30 28 (.fa 1 5),ju 31 28 (.ld false 1 30),ju 32 28 (.bin .leq .i 29 31),jq 33 (.pick 28 32 kf),jm 6 33] [6] .ret)))
def Hf:List RV:=[.t 6]
def eP (g:G) (t:TE) (a0:Network) (a1:Spot) (a2:Spot):Option Bool:=
 br (g.seq a1.Place a2.Place)
 (
  some (g.le a1.At a2.At))
 (
  cl (gp g t a0 a1.Place a2.Place a1.At) fun x1=>
  br (g.eq x1 (-1))
  (
   some false)
  (
   some (g.le x1 a2.At)))
theorem jL {g:G} {t:TE} {a0:Network} {a1:Spot} {a2:Spot} {r:Bool} (hg:g=G.real) (ht:t=TE.real) (h:eP g t a0 a1 a2=some r):Fn Tryz.prog 104 [.g (Network.rs t a0),.g (Spot.rs t a1),.g (Spot.rs t a2)] (.c (.r (.v (.bool r)))):=by
 obtain⟨X,hX⟩:=aC (.c (.r (.v (.bool r))):X);rw[←hX];refine aA (rvs:=Hf) (j:=GI) Tryz.func104 rfl (by kernel_rfl) (nb rfl) (by kernel_rfl) af ?_;intro g2 F hg2 hF;obtain rfl:g2=g:=hg2.unique.trans hg.symm;clear hg2;obtain⟨_,_,_,eq,_,_,_,_,_,_,_,_,_,_,_,_,_,seq⟩:=g2;obtain⟨_⟩:=t
 obtain⟨a0_Legs,a0_Off,a0_Change⟩:=a0;obtain⟨a1_Place,a1_At⟩:=a1;obtain⟨a2_Place,a2_At⟩:=a2;unfold eP at h;try dsimp only at h
 cbv
 cases hb1:(seq a1_Place a2_Place)
 rotate_left
 ·rw[ab hb1] at h;cbv;obtain rfl:=Option.some.inj h;exact ARet.mk trivial hX.symm
 rw[aa hb1] at h;cbv;obtain⟨x1,hx1,h⟩:=ae h;try dsimp only at h
 refine ACall.mk _ _ rfl (hF _ _ _ (so hg ht hx1)) (.inl rfl) (nb rfl) ?_;cbv
 cases hb2:(eq x1 (-1))
 rotate_left
 ·rw[ab hb2] at h;cbv;iterate 4 try(rw[hb2];cbv)
  obtain rfl:=Option.some.inj h;exact ARet.mk trivial hX.symm
 rw[aa hb2] at h;cbv;iterate 4 try(rw[hb2];cbv)
 obtain rfl:=Option.some.inj h;exact ARet.mk trivial hX.symm
def GG (s_k0:ByteArray):J:=js [jq 2 (.box 0),jq 3 (.box 1),jq 4 (.mv (.k (.c (.r (.v (.string s_k0))))))] [2,3] (.seq (js [jl 5 3 2,jl 6 6 3,jc 7 91 [5,6],jq 8 (.not 7)] [2,3,8] (.cond 8 (js [jq 4 (.mv (.k (.c (.r (.v (.string s_k0))))))] [4] .ret) .skip)) (.seq (js [jf 9 2 3,jk 10 9] [2,3,10] (.block 0 (js [jb 12 .eql .i 10 (ki 3),jm 11 12] [2,3,10,11] (.cond 11 (js [jf 13 0 2,jk 14 13,jf 15 4 3,jf 16 0 15,jk 17 16,ja 18 6 14 17,jf 19 0 18,jk 20 19,jm 4 20] [4] .ret) (js [jb 22 .eql .i 10 (ki 2),jm 21 22] [2,3,21] (.cond 21 (js [jf 23 0 2,jk 24 23,jf 25 4 3,jf 26 0 25,jk 27 26,ja 28 6 24 27,jf 29 1 28,jk 30 29,jm 4 30] [4] .ret) .skip)))))) (js [jf 31 3 3,jk 32 31,jm 4 32] [4] .ret)))
def HQ:List RV:=[.t 4]
def j6 (g:G) (t:TE) (a0:Network) (a1:Scan):Option ByteArray:=
 cl (fB g t a0 (Scan.mk a1.Thing a1.At a1.Kind a1.Place (Trip.mk a1.Trip.Leg a1.Trip.Day))) fun x1=>
 br x1
 (
  br (g.eq a1.Kind 3)
  (
   gd (((0:Int)≤a1.Trip.Leg))<|
   gt a0.Legs (g.nat a1.Trip.Leg) fun x2=>
   some x2.From)
  (
   br (g.eq a1.Kind 2)
   (
    gd (((0:Int)≤a1.Trip.Leg))<|
    gt a0.Legs (g.nat a1.Trip.Leg) fun x3=>
    some x3.To)
   (
    some a1.Place)))
 (
  some str_k0)
theorem vV {g:G} {t:TE} {a0:Network} {a1:Scan} {r:ByteArray} (hg:g=G.real) (ht:t=TE.real) (h:j6 g t a0 a1=some r):Fn Tryz.prog 147 [.g (Network.rs t a0),.g (Scan.rs t a1)] (.c (.r (.v (.string r)))):=by
 obtain⟨X,hX⟩:=aC (.c (.r (.v (.string r))):X);rw[←hX];refine aA (rvs:=HQ) (j:=(GG str_k0)) Tryz.func147 rfl (by kernel_rfl) (nb rfl) (by kernel_rfl) af ?_;intro g2 F hg2 hF;obtain rfl:g2=g:=hg2.unique.trans hg.symm;clear hg2;obtain⟨_,_,_,eq⟩:=g2;obtain⟨_⟩:=t
 obtain⟨a0_Legs,a0_Off,a0_Change⟩:=a0;obtain⟨a1_Thing,a1_At,a1_Kind,a1_Place,⟨a1_Trip_Leg,a1_Trip_Day⟩⟩:=a1;unfold j6 at h;try dsimp only at h
 obtain⟨s_k0,hs_k0⟩:∃s,str_k0=s:=⟨_,rfl⟩;try rw[hs_k0] at h
 rw[hs_k0];cbv;obtain⟨x1,hx1,h⟩:=ae h;try dsimp only at h
 refine ACall.mk _ _ rfl (hF _ _ _ (gX hg ht hx1)) (.inl rfl) (nb rfl) ?_;cbv
 cases hb1:x1
 ·rw[aa hb1] at h;cbv;obtain rfl:=Option.some.inj h;exact ARet.mk trivial hX.symm
 rw[ab hb1] at h;cbv
 cases hb2:(eq a1_Kind 3)
 rotate_left
 ·rw[ab hb2] at h;cbv;obtain⟨hc1,h⟩:=ak h;refine AStep.mk hc1 ?_;cbv;obtain⟨x2,hx2,h⟩:=aE h;obtain⟨x2_From,x2_To,x2_Start,x2_Takes,x2_Days,x2_Room⟩:=x2;try dsimp only at h
  refine AGet.mk _ (bk hg ht hx2) ?_;cbv;obtain rfl:=Option.some.inj h;exact ARet.mk trivial hX.symm
 rw[aa hb2] at h;cbv
 cases hb3:(eq a1_Kind 2)
 ·rw[aa hb3] at h;cbv;obtain rfl:=Option.some.inj h;exact ARet.mk trivial hX.symm
 rw[ab hb3] at h;cbv;obtain⟨hc2,h⟩:=ak h;refine AStep.mk hc2 ?_;cbv;obtain⟨x3,hx3,h⟩:=aE h;obtain⟨x3_From,x3_To,x3_Start,x3_Takes,x3_Days,x3_Room⟩:=x3;try dsimp only at h
 refine AGet.mk _ (bk hg ht hx3) ?_;cbv;obtain rfl:=Option.some.inj h;exact ARet.mk trivial hX.symm
def GQ:J:=js [jq 2 (.box 0),jq 3 (.box 1),jq 4 (.alloc [.r (.v (.string .empty)),.r (.v (.int .i64 0))])] [2,3,4] (.seq (js [jl 5 3 2,jl 6 6 3,jc 7 91 [5,6],jq 8 (.not 7)] [2,3,4,8] (.cond 8 (js [jq 9 (.bld [.r (.v (.string .empty)),.r (.v (.int .i64 0))] []),jp (.st 2 4 9)] [4] .ret) .skip)) (.seq (js [jf 10 2 3,jk 11 10,jb 12 .eql .i 11 (ki 3)] [2,3,4,12] (.cond 12 (.seq (.reg (some [[],[0],[],[2],[2,3],[0,1,2,3,4],[0,1,2,3,4,5],[0,1,2,3,4,5,6],[],[],[9],[8,9,10],[0,1,2,3,4,5,6,7,8,9,10,11],[0,1,2,3,4,5,6,7,8,9,10,11,12]]) [jf 13 0 2,jk 14 13,jf 15 4 3,jf 16 0 15,jk 17 16,ja 18 6 14 17,jf 19 1 18,jk 20 19,jl 21 3 2,jf 22 4 3,jl 23 2 22,jc 24 86 [21,23],jq 25 (.bld [.r (.v (.string .empty)),.r (.v (.int .i64 0))] [(0,1,20),(1,1,24)]),jp (.st 2 4 25)] [4]) .ret) .skip)) (.seq (.reg (some [[],[],[0,1],[],[3],[0,1,2,3,4],[0,1,2,3,4,5]]) [jl 26 3 2,jl 27 6 3,jc 28 147 [26,27],jf 29 1 3,jk 30 29,jq 31 (.bld [.r (.v (.string .empty)),.r (.v (.int .i64 0))] [(0,1,28),(1,1,30)]),jp (.st 2 4 31)] [4]) .ret)))
def H1:List RV:=[.c 4 true 2]
def en (g:G) (t:TE) (a0:Network) (a1:Scan):Option Spot:=
 cl (fB g t a0 (Scan.mk a1.Thing a1.At a1.Kind a1.Place (Trip.mk a1.Trip.Leg a1.Trip.Day))) fun x1=>
 br x1
 (
  br (g.eq a1.Kind 3)
  (
   gd (((0:Int)≤a1.Trip.Leg))<|
   gt a0.Legs (g.nat a1.Trip.Leg) fun x2=>
   cl (jM g t a0 (Trip.mk a1.Trip.Leg a1.Trip.Day)) fun x3=>
   some (Spot.mk x2.To x3))
  (
   cl (j6 g t a0 (Scan.mk a1.Thing a1.At a1.Kind a1.Place (Trip.mk a1.Trip.Leg a1.Trip.Day))) fun x4=>
   some (Spot.mk x4 a1.At)))
 (
  some (Spot.mk ByteArray.empty 0))
theorem iU {g:G} {t:TE} {a0:Network} {a1:Scan} {r:Spot} (hg:g=G.real) (ht:t=TE.real) (h:en g t a0 a1=some r):Fn Tryz.prog 105 [.g (Network.rs t a0),.g (Scan.rs t a1)] (.g (Spot.ds t r)):=by
 obtain⟨X,hX⟩:=aC (.g (Spot.ds t r):X);rw[←hX];refine aA (rvs:=H1) (j:=GQ) Tryz.func105 rfl (by kernel_rfl) (nb rfl) (by kernel_rfl) af ?_;intro g2 F hg2 hF;obtain rfl:g2=g:=hg2.unique.trans hg.symm;clear hg2;obtain⟨_,_,_,eq⟩:=g2;obtain⟨_⟩:=t
 obtain⟨a0_Legs,a0_Off,a0_Change⟩:=a0;obtain⟨a1_Thing,a1_At,a1_Kind,a1_Place,⟨a1_Trip_Leg,a1_Trip_Day⟩⟩:=a1;unfold en at h;try dsimp only at h
 cbv;obtain⟨x1,hx1,h⟩:=ae h;try dsimp only at h
 refine ACall.mk _ _ rfl (hF _ _ _ (gX hg ht hx1)) (.inl rfl) (nb rfl) ?_;cbv
 cases hb1:x1
 ·rw[aa hb1] at h;cbv;obtain rfl:=Option.some.inj h;exact ARet.mk trivial hX.symm
 rw[ab hb1] at h;cbv
 cases hb2:(eq a1_Kind 3)
 ·rw[aa hb2] at h;cbv;obtain⟨x4,hx4,h⟩:=ae h;try dsimp only at h
  refine ACall.mk _ _ rfl (hF _ _ _ (vV hg ht hx4)) (.inl rfl) (nb rfl) ?_;cbv;obtain rfl:=Option.some.inj h;exact ARet.mk trivial hX.symm
 rw[ab hb2] at h;cbv;obtain⟨hc1,h⟩:=ak h;refine AStep.mk hc1 ?_;cbv;obtain⟨x2,hx2,h⟩:=aE h;obtain⟨x2_From,x2_To,x2_Start,x2_Takes,x2_Days,x2_Room⟩:=x2;try dsimp only at h
 refine AGet.mk _ (bk hg ht hx2) ?_;cbv;obtain⟨x3,hx3,h⟩:=ae h;try dsimp only at h
 refine ACall.mk _ _ rfl (hF _ _ _ (lO hg ht hx3)) (.inl rfl) (nb rfl) ?_;cbv;obtain rfl:=Option.some.inj h;exact ARet.mk trivial hX.symm
def GX:J:=js [jq 2 (.box 0),jq 3 (.box 1),jq 4 (.alloc [.r (.v (.string .empty)),.r (.v (.int .i64 0))])] [2,3,4] (.seq (js [jl 5 3 2,jl 6 6 3,jc 7 91 [5,6],jq 8 (.not 7)] [2,3,4,8] (.cond 8 (js [jq 9 (.bld [.r (.v (.string .empty)),.r (.v (.int .i64 0))] []),jp (.st 2 4 9)] [4] .ret) .skip)) (.seq (js [jf 10 2 3,jk 11 10,jb 12 .eql .i 11 (ki 3),jm 13 12,jv 14 13 (.fa 2 3),jv 15 13 (.ld false 1 14),jv 16 13 (.bin .eql .i 15 (ki 2)),jq 17 (.pick 13 kt 16)] [2,3,4,17] (.cond 17 (.seq (.reg (some [[],[0],[],[2],[2,3],[0,1,2,3,4],[0,1,2,3,4,5],[0,1,2,3,4,5,6],[],[],[9],[8,9,10],[0,1,2,3,4,5,6,7,8,9,10,11],[0,1,2,3,4,5,6,7,8,9,10,11,12]]) [jf 18 0 2,jk 19 18,jf 20 4 3,jf 21 0 20,jk 22 21,ja 23 6 19 22,jf 24 0 23,jk 25 24,jl 26 3 2,jf 27 4 3,jl 28 2 27,jc 29 85 [26,28],jq 30 (.bld [.r (.v (.string .empty)),.r (.v (.int .i64 0))] [(0,1,25),(1,1,29)]),jp (.st 2 4 30)] [4]) .ret) .skip)) (js [jf 31 3 3,jk 32 31,jf 33 1 3,jk 34 33,jq 35 (.bld [.r (.v (.string .empty)),.r (.v (.int .i64 0))] [(0,1,32),(1,1,34)]),jp (.st 2 4 35)] [4] .ret)))
def Gz:List RV:=[.c 4 true 2]
def ei (g:G) (t:TE) (a0:Network) (a1:Scan):Option Spot:=
 cl (fB g t a0 (Scan.mk a1.Thing a1.At a1.Kind a1.Place (Trip.mk a1.Trip.Leg a1.Trip.Day))) fun x1=>
 br x1
 (
  br (g.eq a1.Kind 3)
  (
   gd (((0:Int)≤a1.Trip.Leg))<|
   gt a0.Legs (g.nat a1.Trip.Leg) fun x2=>
   cl (fA g t a0 (Trip.mk a1.Trip.Leg a1.Trip.Day)) fun x3=>
   some (Spot.mk x2.From x3))
  (
   br (g.eq a1.Kind 2)
   (
    gd (((0:Int)≤a1.Trip.Leg))<|
    gt a0.Legs (g.nat a1.Trip.Leg) fun x4=>
    cl (fA g t a0 (Trip.mk a1.Trip.Leg a1.Trip.Day)) fun x5=>
    some (Spot.mk x4.From x5))
   (
    some (Spot.mk a1.Place a1.At))))
 (
  some (Spot.mk ByteArray.empty 0))
theorem jn {g:G} {t:TE} {a0:Network} {a1:Scan} {r:Spot} (hg:g=G.real) (ht:t=TE.real) (h:ei g t a0 a1=some r):Fn Tryz.prog 106 [.g (Network.rs t a0),.g (Scan.rs t a1)] (.g (Spot.ds t r)):=by
 obtain⟨X,hX⟩:=aC (.g (Spot.ds t r):X);rw[←hX];refine aA (rvs:=Gz) (j:=GX) Tryz.func106 rfl (by kernel_rfl) (nb rfl) (by kernel_rfl) af ?_;intro g2 F hg2 hF;obtain rfl:g2=g:=hg2.unique.trans hg.symm;clear hg2;obtain⟨_,_,_,eq⟩:=g2;obtain⟨_⟩:=t
 obtain⟨a0_Legs,a0_Off,a0_Change⟩:=a0;obtain⟨a1_Thing,a1_At,a1_Kind,a1_Place,⟨a1_Trip_Leg,a1_Trip_Day⟩⟩:=a1;unfold ei at h;try dsimp only at h
 cbv;obtain⟨x1,hx1,h⟩:=ae h;try dsimp only at h
 refine ACall.mk _ _ rfl (hF _ _ _ (gX hg ht hx1)) (.inl rfl) (nb rfl) ?_;cbv
 cases hb1:x1
 ·rw[aa hb1] at h;cbv;obtain rfl:=Option.some.inj h;exact ARet.mk trivial hX.symm
 rw[ab hb1] at h;cbv
 cases hb2:(eq a1_Kind 3)
 rotate_left
 ·rw[ab hb2] at h;cbv;iterate 3 try(rw[hb2];cbv)
  obtain⟨hc1,h⟩:=ak h;refine AStep.mk hc1 ?_;cbv;obtain⟨x2,hx2,h⟩:=aE h;obtain⟨x2_From,x2_To,x2_Start,x2_Takes,x2_Days,x2_Room⟩:=x2;try dsimp only at h
  refine AGet.mk _ (bk hg ht hx2) ?_;cbv;obtain⟨x3,hx3,h⟩:=ae h;try dsimp only at h
  refine ACall.mk _ _ rfl (hF _ _ _ (gE hg ht hx3)) (.inl rfl) (nb rfl) ?_;cbv;obtain rfl:=Option.some.inj h;exact ARet.mk trivial hX.symm
 rw[aa hb2] at h;cbv;iterate 3 try(rw[hb2];cbv)
 cases hb3:(eq a1_Kind 2)
 ·rw[aa hb3] at h;cbv;obtain rfl:=Option.some.inj h;exact ARet.mk trivial hX.symm
 rw[ab hb3] at h;cbv;obtain⟨hc2,h⟩:=ak h;refine AStep.mk hc2 ?_;cbv;obtain⟨x4,hx4,h⟩:=aE h;obtain⟨x4_From,x4_To,x4_Start,x4_Takes,x4_Days,x4_Room⟩:=x4;try dsimp only at h
 refine AGet.mk _ (bk hg ht hx4) ?_;cbv;obtain⟨x5,hx5,h⟩:=ae h;try dsimp only at h
 refine ACall.mk _ _ rfl (hF _ _ _ (gE hg ht hx5)) (.inl rfl) (nb rfl) ?_;cbv;obtain rfl:=Option.some.inj h;exact ARet.mk trivial hX.symm
def ir48:J:=js [jq 3 (.box 0),jq 4 (.box 1),jq 5 (.box 2),jm 6 kf] [3,4,5] (.seq (js [jl 7 3 3,jl 8 6 4,jc 9 91 [7,8],jq 10 (.not 9),jm 11 10,jv 12 11 (.ld true 3 3),jv 13 11 (.ld true 6 5),jv 14 11 (.call 91 true [12,13]),jv 15 11 (.not 14),jq 16 (.pick 11 kt 15),jm 17 16,jv 18 17 (.fa 0 4),jv 19 17 (.ld false 1 18),jv 20 17 (.fa 0 5),jv 21 17 (.ld false 1 20),jv 22 17 (.bin .neq .i 19 21),jq 23 (.pick 17 kt 22),jm 24 23,jv 25 24 (.ld true 6 4),jv 26 24 (.ld true 6 5),jv 27 24 (.call 37 true [25,26]),jv 28 24 (.bin .geq .i 27 (ki 0)),jq 29 (.pick 24 kt 28),jm 30 29,jv 31 30 (.fa 2 4),jv 32 30 (.ld false 1 31),jv 33 30 (.bin .eql .i 32 (ki 4)),jq 34 (.pick 30 kt 33)] [3,4,5,34] (.cond 34 (js [jm 6 kf] [6] .ret) .skip)) (.seq (js [jf 35 2 5,jk 36 35,jb 37 .eql .i 36 (ki 2),jm 38 37,ju 39 38 (.fa 2 4),ju 40 38 (.ld false 1 39),ju 41 38 (.bin .eql .i 40 (ki 3)),jq 42 (.pick 38 41 kf),jm 43 42,ju 44 43 (.fa 4 4),ju 45 43 (.ld true 2 44),ju 46 43 (.fa 4 5),ju 47 43 (.ld true 2 46),ju 48 43 (.eqs false [.i,.i] 45 47),jq 49 (.pick 43 48 kf)] [3,4,5,49] (.cond 49 (js [jm 6 kt] [6] .ret) .skip)) (.seq (.reg (some [[],[],[],[1,2],[],[],[1,2,3,4,5],[0,1,2,3,4,5,6],[0,1,2,3,4,5,6,7]]) [jl 50 3 3,jl 51 3 3,jl 52 6 4,jc 53 105 [51,52],jl 54 3 3,jl 55 6 5,jc 56 106 [54,55],jc 57 104 [50,53,56],jm 6 57] [6]) .ret)))
def rv48:List RV:=[.t 6]
def dJ (g:G) (t:TE) (a0:Network) (a1:Scan) (a2:Scan):Option Bool:=
 cl (fB g t a0 (Scan.mk a1.Thing a1.At a1.Kind a1.Place (Trip.mk a1.Trip.Leg a1.Trip.Day))) fun x1=>
 br x1
 (
  cl (fB g t a0 (Scan.mk a2.Thing a2.At a2.Kind a2.Place (Trip.mk a2.Trip.Leg a2.Trip.Day))) fun x2=>
  br x2
  (
   br (g.eq a1.Thing a2.Thing)
   (
    lP (bg g t (Scan.mk a1.Thing a1.At a1.Kind a1.Place (Trip.mk a1.Trip.Leg a1.Trip.Day)) (Scan.mk a2.Thing a2.At a2.Kind a2.Place (Trip.mk a2.Trip.Leg a2.Trip.Day))) fun x3=>
    br (g.le 0 x3)
    (
     some false)
    (
     br (g.eq a1.Kind 4)
     (
      some false)
     (
      br (g.eq a2.Kind 2)
      (
       br (g.eq a1.Kind 3)
       (
        br (g.all [(g.eq a1.Trip.Leg a2.Trip.Leg),(g.eq a1.Trip.Day a2.Trip.Day)])
        (
         some true)
        (
         cl (en g t a0 (Scan.mk a1.Thing a1.At a1.Kind a1.Place (Trip.mk a1.Trip.Leg a1.Trip.Day))) fun x4=>
         cl (ei g t a0 (Scan.mk a2.Thing a2.At a2.Kind a2.Place (Trip.mk a2.Trip.Leg a2.Trip.Day))) fun x5=>
         cl (eP g t a0 x4 x5) fun x6=>
         some x6))
       (
        cl (en g t a0 (Scan.mk a1.Thing a1.At a1.Kind a1.Place (Trip.mk a1.Trip.Leg a1.Trip.Day))) fun x7=>
        cl (ei g t a0 (Scan.mk a2.Thing a2.At a2.Kind a2.Place (Trip.mk a2.Trip.Leg a2.Trip.Day))) fun x8=>
        cl (eP g t a0 x7 x8) fun x9=>
        some x9))
      (
       cl (en g t a0 (Scan.mk a1.Thing a1.At a1.Kind a1.Place (Trip.mk a1.Trip.Leg a1.Trip.Day))) fun x10=>
       cl (ei g t a0 (Scan.mk a2.Thing a2.At a2.Kind a2.Place (Trip.mk a2.Trip.Leg a2.Trip.Day))) fun x11=>
       cl (eP g t a0 x10 x11) fun x12=>
       some x12))))
   (
    some false))
  (
   some false))
 (
  some false)
theorem hG {g:G} {t:TE} {a0:Network} {a1:Scan} {a2:Scan} {r:Bool} (hg:g=G.real) (ht:t=TE.real) (h:dJ g t a0 a1 a2=some r):Fn Tryz.prog 48 [.g (Network.rs t a0),.g (Scan.rs t a1),.g (Scan.rs t a2)] (.c (.r (.v (.bool r)))):=by
 obtain⟨X,hX⟩:=aC (.c (.r (.v (.bool r))):X);rw[←hX];refine aA (rvs:=rv48) (j:=ir48) Tryz.func48 rfl (by kernel_rfl) (nb rfl) (by kernel_rfl) af ?_;intro g2 F hg2 hF;obtain rfl:g2=g:=hg2.unique.trans hg.symm;clear hg2;obtain⟨_,_,le,eq,_,_,_,_,_,_,_,_,_,_,_,_,_,_,_,_,_,_,_,_,_,_,_,_,_,_,_,_,_,all⟩:=g2;obtain⟨_⟩:=t
 obtain⟨a0_Legs,a0_Off,a0_Change⟩:=a0;obtain⟨a1_Thing,a1_At,a1_Kind,a1_Place,⟨a1_Trip_Leg,a1_Trip_Day⟩⟩:=a1;obtain⟨a2_Thing,a2_At,a2_Kind,a2_Place,⟨a2_Trip_Leg,a2_Trip_Day⟩⟩:=a2;unfold dJ at h;try dsimp only at h
 cbv;obtain⟨x1,hx1,h⟩:=ae h;try dsimp only at h
 refine ACall.mk _ _ rfl (hF _ _ _ (gX hg ht hx1)) (.inl rfl) (nb rfl) ?_;cbv
 cases hb1:x1
 ·rw[aa hb1] at h;cbv;iterate 4 try(rw[hb1];cbv)
  obtain rfl:=Option.some.inj h;exact ARet.mk trivial hX.symm
 rw[ab hb1] at h;cbv;iterate 2 try(rw[hb1];cbv)
 obtain⟨x2,hx2,h⟩:=ae h;try dsimp only at h
 refine ACall.mk _ _ rfl (hF _ _ _ (gX hg ht hx2)) (.inl rfl) (nb rfl) ?_;cbv;iterate 2 try(rw[hb1];cbv)
 cases hb2:x2
 ·rw[aa hb2] at h;cbv;iterate 5 try(rw[hb2];cbv)
  obtain rfl:=Option.some.inj h;exact ARet.mk trivial hX.symm
 rw[ab hb2] at h;cbv;iterate 5 try(rw[hb2];cbv)
 cases hb3:(eq a1_Thing a2_Thing)
 ·rw[aa hb3] at h;cbv;iterate 4 try(rw[hb3];cbv)
  obtain rfl:=Option.some.inj h;exact ARet.mk trivial hX.symm
 rw[ab hb3] at h;cbv;iterate 2 try(rw[hb3];cbv)
 obtain⟨x3,hx3,h⟩:=ah h;try dsimp only at h
 refine ACall.mk _ _ rfl (hF _ _ _ (g0 hg ht hx3)) (.inl rfl) (nb rfl) ?_;cbv;iterate 2 try(rw[hb3];cbv)
 cases hb4:(le 0 x3)
 rotate_left
 ·rw[ab hb4] at h;cbv;iterate 3 try(rw[hb4];cbv)
  obtain rfl:=Option.some.inj h;exact ARet.mk trivial hX.symm
 rw[aa hb4] at h;cbv;iterate 3 try(rw[hb4];cbv)
 cases hb5:(eq a1_Kind 4)
 rotate_left
 ·rw[ab hb5] at h;cbv;obtain rfl:=Option.some.inj h;exact ARet.mk trivial hX.symm
 rw[aa hb5] at h;cbv
 cases hb6:(eq a2_Kind 2)
 ·rw[aa hb6] at h;cbv;iterate 3 try(rw[hb6];cbv)
  obtain⟨x10,hx10,h⟩:=ae h;obtain⟨x10_Place,x10_At⟩:=x10;try dsimp only at h
  refine ACall.mk _ _ rfl (hF _ _ _ (iU hg ht hx10)) (.inl rfl) (nb rfl) ?_;cbv;obtain⟨x11,hx11,h⟩:=ae h;obtain⟨x11_Place,x11_At⟩:=x11;try dsimp only at h
  refine ACall.mk _ _ rfl (hF _ _ _ (jn hg ht hx11)) (.inl rfl) (nb rfl) ?_;cbv;obtain⟨x12,hx12,h⟩:=ae h;try dsimp only at h
  refine ACall.mk _ _ rfl (hF _ _ _ (jL hg ht hx12)) (.inl rfl) (nb rfl) ?_;cbv;obtain rfl:=Option.some.inj h;exact ARet.mk trivial hX.symm
 rw[ab hb6] at h;cbv;iterate 3 try(rw[hb6];cbv)
 cases hb7:(eq a1_Kind 3)
 ·rw[aa hb7] at h;cbv;iterate 5 try(rw[hb7];cbv)
  obtain⟨x7,hx7,h⟩:=ae h;obtain⟨x7_Place,x7_At⟩:=x7;try dsimp only at h
  refine ACall.mk _ _ rfl (hF _ _ _ (iU hg ht hx7)) (.inl rfl) (nb rfl) ?_;cbv;obtain⟨x8,hx8,h⟩:=ae h;obtain⟨x8_Place,x8_At⟩:=x8;try dsimp only at h
  refine ACall.mk _ _ rfl (hF _ _ _ (jn hg ht hx8)) (.inl rfl) (nb rfl) ?_;cbv;obtain⟨x9,hx9,h⟩:=ae h;try dsimp only at h
  refine ACall.mk _ _ rfl (hF _ _ _ (jL hg ht hx9)) (.inl rfl) (nb rfl) ?_;cbv;obtain rfl:=Option.some.inj h;exact ARet.mk trivial hX.symm
 rw[ab hb7] at h;cbv;iterate 5 try(rw[hb7];cbv)
 cases hb8:(all [(eq a1_Trip_Leg a2_Trip_Leg),(eq a1_Trip_Day a2_Trip_Day)])
 rotate_left
 ·rw[ab hb8] at h;cbv;obtain rfl:=Option.some.inj h;exact ARet.mk trivial hX.symm
 rw[aa hb8] at h;cbv;obtain⟨x4,hx4,h⟩:=ae h;obtain⟨x4_Place,x4_At⟩:=x4;try dsimp only at h
 refine ACall.mk _ _ rfl (hF _ _ _ (iU hg ht hx4)) (.inl rfl) (nb rfl) ?_;cbv;obtain⟨x5,hx5,h⟩:=ae h;obtain⟨x5_Place,x5_At⟩:=x5;try dsimp only at h
 refine ACall.mk _ _ rfl (hF _ _ _ (jn hg ht hx5)) (.inl rfl) (nb rfl) ?_;cbv;obtain⟨x6,hx6,h⟩:=ae h;try dsimp only at h
 refine ACall.mk _ _ rfl (hF _ _ _ (jL hg ht hx6)) (.inl rfl) (nb rfl) ?_;cbv;obtain rfl:=Option.some.inj h;exact ARet.mk trivial hX.symm
def ir19:J:=js [jq 3 (.box 0),jq 6 (.mv (.k (.c (.n 1))))] [1,2,3] (js [jq 10 (.bsl 1 []),jm 7 10] [1,2,3,7] (js [jl 11 3 3,jm 12 1,jm 13 2,jc 14 18 [11,12,13],jm 8 14] [3,7,8] (.seq (js [jm 9 (ki 1)] [3,7,8,9] (.bl 0 (.seq (js [jm 15 9,jm 16 8,jq 17 (.len false 16),jb 18 .lss .i 15 17] [3,7,8,9,18] (.cond 18 .skip (.exit 0))) (.seq (.block 1 (.seq (.reg (some [[],[],[],[2],[1,2,3],[1,2,3,4],[],[],[6,7],[6,7,8],[0,1,2,3,4,5,6,7,8,9],[0,1,2,3,4,5,6,7,8,9,10]]) [jl 21 3 3,jm 22 8,jm 23 9,jb 24 .sub .i 23 (ki 1),ja 25 6 22 24,jl 26 6 25,jm 27 8,jm 28 9,ja 29 6 27 28,jl 30 6 29,jc 31 48 [21,26,30],jq 32 (.not 31)] [3,7,8,9,32]) (.cond 32 (.reg none [jm 33 7,jm 34 9,jq 35 (.bsl 1 [34]),jq 36 (.app 1 8 true 33 35),jm 7 36] [3,7,8,9]) .skip))) (.reg none [jm 19 9,jb 20 .add .i 19 (ki 1),jm 9 20] [3,7,8,9]))))) (js [jm 37 7,jm 6 37] [6] .ret))))
def rv19:List RV:=[.t 6]
def cv (g:G) (t:TE) (a0:Network) (x1:List Scan):Nat→Int→List Int→Option (List Int)
 |0,v1,w1=>
  some w1
 |n1+1,v1,w1=>
  gd (((0:Int)≤(g.wrap .i64 (g.sub v1 1))∧(g.wrap .i64 (g.sub v1 1))<(((g.dlen (t.d_Scan x1)):Nat):Int)))<|
  gt x1 (g.nat (g.wrap .i64 (g.sub v1 1))) fun x2=>
  gt x1 (g.nat v1) fun x3=>
  cl (dJ g t a0 (Scan.mk x2.Thing x2.At x2.Kind x2.Place (Trip.mk x2.Trip.Leg x2.Trip.Day)) (Scan.mk x3.Thing x3.At x3.Kind x3.Place (Trip.mk x3.Trip.Leg x3.Trip.Day))) fun x4=>
  br x4
  (
   cv g t a0 x1 n1 (g.wrap .i64 (g.add v1 1)) w1)
  (
   lP ([v1]) fun(l2:List Int)=>
   gd (((w1.length+l2.length)*8≤70368744177664))<|
   lP (w1++l2) fun(l3:List Int)=>
   cv g t a0 x1 n1 (g.wrap .i64 (g.add v1 1)) l3)
def gb (g:G) (t:TE) (a0:Network) (a1:List Scan) (a2:Int):Option (List Int):=
 lP ([]) fun(l1:List Int)=>
 cl (d7 g t a0 a1 a2) fun x1=>
 gd (((g.int (g.dlen (t.d_Scan x1)))≤9223372036854775807))<|
 cl (cv g t a0 x1 (ap 1 (g.int (g.dlen (t.d_Scan x1)))) 1 l1) fun y1=>
 some y1
theorem lU {g:G} {t:TE} {a0:Network} {a1:List Scan} {a2:Int} {r:List Int} (hg:g=G.real) (ht:t=TE.real) (h:gb g t a0 a1 a2=some r):Fn Tryz.prog 19 [.g (Network.rs t a0),.c (.s 6 (t.r_Scan a1)),.c (.v (.int .i64 a2))] (.c (.o 1 (t.d_I64 r))):=by
 obtain⟨X,hX⟩:=aC (.c (.o 1 (t.d_I64 r)):X);rw[←hX];refine aA (rvs:=rv19) (j:=ir19) Tryz.func19 rfl (by kernel_rfl) (nb rfl) (by kernel_rfl) af ?_;intro g2 F hg2 hF;obtain rfl:g2=g:=hg2.unique.trans hg.symm;clear hg2;obtain⟨wrap,lt,_,_,_,_,_,_,_,_,_,_,int,add,_,_,_,_,_,_,_,_,_,_,dlen⟩:=g2;obtain⟨_,_,_,d_Scan,r_Leg,_,r_I64,d_I64⟩:=t
 obtain⟨a0_Legs,a0_Off,a0_Change⟩:=a0;unfold gb at h;try dsimp only at h
 cbv;obtain⟨l1,hl1,h⟩:=ah h;try dsimp only at h
 refine ANew.mk (d_I64 l1) (dlen (d_I64 l1)) (by rw[←hl1];exact cS hg ht []) (by rw[←hl1];exact co hg ht []) ?_;cbv;obtain⟨x1,hx1,h⟩:=ae h;try dsimp only at h
 refine ACall.mk _ _ rfl (hF _ _ _ (hO hg ht hx1)) (.inl rfl) (nb rfl) ?_;cbv;obtain⟨hB1,h⟩:=ak h;obtain⟨o1,ho1,h⟩:=ae h;try dsimp only at h
 try rw[hg] at ho1
 try rw[ht] at ho1
 refine ABL.mk {p:Nat×Int×List Int//p.1=ap p.2.1 (int (dlen (d_Scan x1)))∧1≤p.2.1∧cv G.real TE.real (Network.mk a0_Legs a0_Off a0_Change) x1 p.1 p.2.1 p.2.2=some o1} (fun⟨⟨n1,v1,w1⟩,_⟩=>({sl:=[(3,.c (.p 0 3 0 0)),(7,.c (.f 1 1 0 (dlen (d_I64 w1)))),(8,.c (.f 2 6 0 (dlen (d_Scan x1)))),(9,.c (.r (.v (.int .i64 v1))))],tab:=[(0,some (.foc 3 [] [.r (.s 6 (r_Leg a0_Legs)),.r (.s 1 (r_I64 a0_Off)),.r (.v (.int .i64 a0_Change))] [])),(1,some (.arr 1 (d_I64 w1))),(2,some (.arr 6 (d_Scan x1)))]}:St)) 3 (fun p=>p.1.1) ⟨(ap 1 (int (dlen (d_Scan x1))),1,l1),rfl,Int.le_refl _,ho1⟩ (List Int) (fun y1=>({sl:=[(7,.c (.f 0 1 0 (dlen (d_I64 y1))))],tab:=[(0,some (.arr 1 (d_I64 y1)))]}:St)) 1 (fun y=>o1=y) ?_ ?_ ?_
 ·refine Wk.of [(0,some 0),(1,some 32),(2,some 112)] rfl rfl ?_ ?_
  ·cbv;all_goals exact⟨⟨_,rfl,rfl⟩,⟨_,rfl,rfl⟩,⟨_,rfl,rfl⟩,⟨_,rfl,rfl⟩,trivial⟩
  cbv;all_goals exact⟨⟨_,rfl,_,rfl,rfl,rfl,rfl,trivial⟩,⟨_,rfl,rfl⟩,⟨_,rfl,rfl⟩,trivial⟩
 ·rintro⟨⟨n1,v1,w1⟩,hn1,hi1,h_1⟩ hq1;try dsimp only at hn1 hi1 h_1
  clear hq1;cbv;rcases n1 with _|n1
  ·have hb1:lt v1 (int (dlen (d_Scan x1)))=false:=ba hg hn1;rw[cv] at h_1;try rw[←hg] at h_1
   try rw[←ht] at h_1
   try dsimp only at h_1
   rw[hb1];cbv;refine⟨w1,Wk.of [(0,some 1)] rfl rfl ?_ ?_,(Option.some.inj h_1).symm⟩
   ·cbv;all_goals exact⟨⟨_,rfl,rfl⟩,trivial⟩
   cbv;all_goals exact⟨⟨_,rfl,rfl⟩,trivial⟩
  have hb1:lt v1 (int (dlen (d_Scan x1)))=true:=bt hg hn1;have hl1:=cR hn1;have hs1:=bS hg hn1 hi1 hB1 (by decide);rw[cv] at h_1;try rw[←hg] at h_1
  try rw[←ht] at h_1
  try dsimp only at h_1
  rw[hb1];cbv;obtain⟨hc1,h_1⟩:=ak h_1;refine AStep.mk hc1 ?_;cbv;obtain⟨x2,hx2,h_1⟩:=aE h_1;obtain⟨x2_Thing,x2_At,x2_Kind,x2_Place,⟨x2_Trip_Leg,x2_Trip_Day⟩⟩:=x2;try dsimp only at h_1
  refine AGet.mk _ (aO hg ht hx2) ?_;cbv;refine AStep.mk (di hg hi1 hl1) ?_;cbv;obtain⟨x3,hx3,h_1⟩:=aE h_1;obtain⟨x3_Thing,x3_At,x3_Kind,x3_Place,⟨x3_Trip_Leg,x3_Trip_Day⟩⟩:=x3;try dsimp only at h_1
  refine AGet.mk _ (aO hg ht hx3) ?_;cbv;obtain⟨x4,hx4,h_1⟩:=ae h_1;try dsimp only at h_1
  refine ACall.mk _ _ rfl (hF _ _ _ (hG hg ht hx4)) (.inl rfl) (nb rfl) ?_;cbv
  cases hb2:x4
  rotate_left
  ·rw[ab hb2] at h_1;cbv;try rw[hg] at h_1
   try rw[ht] at h_1
   refine⟨⟨(n1,(wrap .i64 (add v1 1)),w1),hs1.1,hs1.2,h_1⟩,Wk.of [(0,some 0),(1,some 1),(2,some 2)] rfl rfl ?_ ?_,Nat.lt_succ_self _⟩
   ·cbv;all_goals exact⟨⟨_,rfl,rfl⟩,⟨_,rfl,rfl⟩,⟨_,rfl,rfl⟩,⟨_,rfl,rfl⟩,trivial⟩
   cbv;all_goals exact⟨⟨_,rfl,_,rfl,rfl,rfl,rfl,trivial⟩,⟨_,rfl,rfl⟩,⟨_,rfl,rfl⟩,trivial⟩
  rw[aa hb2] at h_1;cbv;obtain⟨l2,hl2,h_1⟩:=ah h_1;try dsimp only at h_1
  refine ANew.mk (d_I64 l2) (dlen (d_I64 l2)) (by rw[←hl2];exact cS hg ht [v1]) (by rw[←hl2];exact co hg ht [v1]) ?_;cbv;obtain⟨hc2,h_1⟩:=ak h_1;refine AStep.mk ⟨⟨rfl,(al hg ht _)⟩,(fM hg ht (al hg ht _) rfl hc2)⟩ ?_;cbv;obtain⟨l3,hl3,h_1⟩:=ah h_1;try dsimp only at h_1
  refine ANew.mk (d_I64 l3) (dlen (d_I64 l3)) (by rw[←hl3];exact kN hg ht (al hg ht _) rfl) (by rw[←hl3];exact je hg ht (al hg ht _) rfl) ?_;cbv;try rw[hg] at h_1
  try rw[ht] at h_1
  refine⟨⟨(n1,(wrap .i64 (add v1 1)),l3),hs1.1,hs1.2,h_1⟩,Wk.of [(0,some 0),(1,some 307),(2,some 2)] rfl rfl ?_ ?_,Nat.lt_succ_self _⟩
  ·cbv;all_goals exact⟨⟨_,rfl,rfl⟩,⟨_,rfl,rfl⟩,⟨_,rfl,rfl⟩,⟨_,rfl,rfl⟩,trivial⟩
  cbv;all_goals exact⟨⟨_,rfl,_,rfl,rfl,rfl,rfl,trivial⟩,⟨_,rfl,rfl⟩,⟨_,rfl,rfl⟩,trivial⟩
 rintro y1 hy1;replace hy1:=hy1.symm;subst hy1;try dsimp only[lr,lrL,lrp,aZ] at h
 cbv;obtain rfl:=Option.some.inj h;exact ARet.mk ⟨rfl,(al hg ht _)⟩ hX.symm
def ir20:J:=js [jm 4 kf] [0,1] (.seq (js [jm 6 0,jq 7 (.len false 6),jm 8 1,jq 9 (.len false 8),jb 10 .neq .i 7 9] [0,1,10] (.cond 10 (js [jm 4 kf] [4] .ret) .skip)) (.seq (js [jm 5 (ki 0)] [0,1,5] (.bl 0 (.seq (js [jm 11 5,jm 12 0,jq 13 (.len false 12),jb 14 .lss .i 11 13] [0,1,5,14] (.cond 14 .skip (.exit 0))) (.seq (.block 1 (.seq (.reg (some [[],[],[0,1],[0,1,2],[],[],[4,5],[4,5,6],[0,1,2,3,4,5,6,7]]) [jm 17 0,jm 18 5,ja 19 6 17 18,jl 20 6 19,jm 21 1,jm 22 5,ja 23 6 21 22,jl 24 6 23,jq 25 (.eqs true [.i,.i,.i,.s,.i,.i] 20 24)] [0,1,5,25]) (.cond 25 (js [jm 4 kf] [4] .ret) .skip))) (.reg none [jm 15 5,jb 16 .add .i 15 (ki 1),jm 5 16] [0,1,5]))))) (js [jm 4 kt] [4] .ret)))
def rv20:List RV:=[.t 4]
def eQ (g:G) (t:TE) (a1:List Scan):List Scan→Int→Option (LR Bool Unit)
 |[],v1=>
  some (LR.out ())
 |z1::ls1,v1=>
  gt a1 (g.nat v1) fun x1=>
  br (g.all [(g.eq z1.Thing x1.Thing),(g.eq z1.At x1.At),(g.eq z1.Kind x1.Kind),(g.seq z1.Place x1.Place),(g.eq z1.Trip.Leg x1.Trip.Leg),(g.eq z1.Trip.Day x1.Trip.Day)])
  (
   eQ g t a1 ls1 (g.wrap .i64 (g.add v1 1)))
  (
   some (LR.ret false))
def iJ (g:G) (t:TE) (a0:List Scan) (a1:List Scan):Option Bool:=
 br (g.eq (g.llen (t.r_Scan a0)) (g.llen (t.r_Scan a1)))
 (
  cl (eQ g t a1 a0 0) fun o1=>lr o1 fun y1=>
  some true)
 (
  some false)
theorem mh {g:G} {t:TE} {a0:List Scan} {a1:List Scan} {r:Bool} (hg:g=G.real) (ht:t=TE.real) (h:iJ g t a0 a1=some r):Fn Tryz.prog 20 [.c (.s 6 (t.r_Scan a0)),.c (.s 6 (t.r_Scan a1))] (.c (.r (.v (.bool r)))):=by
 obtain⟨X,hX⟩:=aC (.c (.r (.v (.bool r))):X);rw[←hX];refine aA (rvs:=rv20) (j:=ir20) Tryz.func20 rfl (by kernel_rfl) (nb rfl) (by kernel_rfl) af ?_;intro g2 F hg2 hF;obtain rfl:g2=g:=hg2.unique.trans hg.symm;clear hg2;obtain⟨wrap,lt,_,eq,_,_,_,_,_,_,_,_,_,add,_,_,_,seq,_,_,_,llen,_,_,_,_,_,_,_,_,_,_,_,all⟩:=g2;obtain⟨_,_,r_Scan⟩:=t
 unfold iJ at h;try dsimp only at h
 cbv
 cases hb1:(eq (llen (r_Scan a0)) (llen (r_Scan a1)))
 ·rw[aa hb1] at h;cbv;obtain rfl:=Option.some.inj h;exact ARet.mk trivial hX.symm
 rw[ab hb1] at h;cbv;obtain⟨o1,ho1,h⟩:=ae h;try dsimp only at h
 try rw[hg] at ho1
 try rw[ht] at ho1
 refine ABL.mk {p:Nat×Int//p.1≤a0.length∧p.2=((p.1:Nat):Int)∧eQ G.real TE.real a1 (List.drop p.1 a0) p.2=some o1} (fun⟨⟨k1,v1⟩,_⟩=>({sl:=[(0,.c (.r (.s 6 (r_Scan a0)))),(1,.c (.r (.s 6 (r_Scan a1)))),(5,.c (.r (.v (.int .i64 v1))))],tab:=[]}:St)) 0 (fun p=>a0.length-p.1.1) ⟨(0,0),Nat.zero_le _,rfl,ho1⟩ (Unit) (fun _=>({sl:=[],tab:=[]}:St)) 0 (fun y=>o1=LR.out y) ?_ ?_ ?_
 ·refine Wk.of [] rfl rfl ?_ ?_
  ·cbv;all_goals exact⟨⟨_,rfl,rfl⟩,⟨_,rfl,rfl⟩,⟨_,rfl,rfl⟩,trivial⟩
  cbv;all_goals exact trivial
 ·rintro⟨⟨k1,v1⟩,hk1,hi1,h_1⟩ hq1;have hm1:=(hq1.1 0 _ _ rfl);try dsimp only at hk1 hi1 h_1
  clear hq1;cbv
  by_cases hc1_:k1<a0.length
  ·have hb2:lt v1 (llen (r_Scan a0))=true:=jK hg ht hi1 hc1_;have hs1:=nr hg ht hi1 hc1_ hm1;obtain⟨z1,hz1⟩:=aX hc1_;rw[aH hz1] at h_1;rw[eQ] at h_1;obtain⟨z1_Thing,z1_At,z1_Kind,z1_Place,⟨z1_Trip_Leg,z1_Trip_Day⟩⟩:=z1;try rw[←hg] at h_1
   try rw[←ht] at h_1
   try dsimp only at h_1
   rw[hb2];cbv;refine AStep.mk (fP hi1) ?_;cbv;refine AGet.mk _ (eV hg ht hi1 hz1) ?_;cbv;refine AStep.mk (fP hi1) ?_;cbv;obtain⟨x1,hx1,h_1⟩:=aE h_1;obtain⟨x1_Thing,x1_At,x1_Kind,x1_Place,⟨x1_Trip_Leg,x1_Trip_Day⟩⟩:=x1;try dsimp only at h_1
   refine AGet.mk _ (eB hg ht hx1) ?_;cbv
   cases hb3:(all [(eq z1_Thing x1_Thing),(eq z1_At x1_At),(eq z1_Kind x1_Kind),(seq z1_Place x1_Place),(eq z1_Trip_Leg x1_Trip_Leg),(eq z1_Trip_Day x1_Trip_Day)])
   ·rw[aa hb3] at h_1;cbv;obtain rfl:=Option.some.inj h_1;try dsimp only[lr,lrL,lrp,aZ] at h
    obtain rfl:=Option.some.inj h;exact ARet.mk trivial hX.symm
   rw[ab hb3] at h_1;cbv;try rw[hg] at h_1
   try rw[ht] at h_1
   refine⟨⟨(k1+1,(wrap .i64 (add v1 1))),hc1_,hs1,h_1⟩,Wk.of [] rfl rfl ?_ ?_,bc hc1_⟩
   ·cbv;all_goals exact⟨⟨_,rfl,rfl⟩,⟨_,rfl,rfl⟩,⟨_,rfl,rfl⟩,trivial⟩
   cbv;all_goals exact trivial
  have hb2:lt v1 (llen (r_Scan a0))=false:=jd hg ht hi1 hc1_;rw[List.drop_of_length_le (Nat.le_of_not_lt hc1_)] at h_1;rw[eQ] at h_1;try rw[←hg] at h_1
  try rw[←ht] at h_1
  try dsimp only at h_1
  rw[hb2];cbv;refine⟨(),Wk.of [] rfl rfl ?_ ?_,(Option.some.inj h_1).symm⟩
  ·cbv;all_goals exact trivial
  cbv;all_goals exact trivial
 rintro _ hy1;replace hy1:=hy1.symm;subst hy1;try dsimp only[lr,lrL,lrp,aZ] at h
 cbv;obtain rfl:=Option.some.inj h;exact ARet.mk trivial hX.symm
def ir21:J:=js [jq 3 (.box 0),jq 6 (.mv (.k (.c (.n 6))))] [1,2,3] (js [jq 10 (.bsl 6 []),jm 7 10] [1,2,3,7] (.seq (js [jl 11 3 3,jm 12 1,jm 13 2,jc 14 18 [11,12,13],jq 15 (.len false 14),jm 16 (ki 0)] [3,7,14,15,16] (.bl 0 (js [jb 17 .lss .i 16 15] [3,7,14,15,16,17] (.seq (.cond 17 .skip (.exit 0)) (.seq (.block 1 (js [ja 18 6 14 16,jl 19 6 18,jq 9 (.alloc [.r (.v (.int .i64 0)),.r (.v (.int .i64 0)),.r (.v (.int .i64 0)),.r (.v (.string .empty)),.r (.v (.int .i64 0)),.r (.v (.int .i64 0))]),jp (.st 6 9 19)] [3,7,9,14,15,16] (.seq (.reg (some [[],[0],[0,1],[0,1,2],[0,1,2,3],[0,1,2,3],[0,1,2,3],[0,1,2,3,6],[0,1,2,3,6,7],[0,1,2,3,5,6,7,8],[0,1,2,3,5,6,7,8,9],[0,1,2,3],[0,1,2,3,4,5,6,7,8,9,10,11],[0,1,2,3,4,5,6,7,8,9,10,11,12]]) [jm 20 7,jq 21 (.len false 20),jb 22 .eql .i 21 (ki 0),jm 23 22,jv 24 23 (.ld true 3 3),jv 25 23 (.mv 7),jv 26 23 (.mv 7),jv 27 23 (.len false 26),jv 28 23 (.bin .sub .i 27 (ki 1)),jv 29 23 (.ia 6 25 28),jv 30 23 (.ld true 6 29),jv 31 23 (.ld true 6 9),jv 32 23 (.call 48 true [24,30,31]),jq 33 (.pick 23 kt 32)] [3,7,9,14,15,16,33]) (.cond 33 (.reg none [jm 34 7,jl 35 6 9,jq 36 (.bsl 6 [35]),jq 37 (.app 6 56 true 34 36),jm 7 37] [3,7,14,15,16]) .skip)))) (.reg none [jb 38 .add .i 16 (ki 1),jm 16 38] [3,7,14,15,16])))))) (js [jm 39 7,jm 6 39] [6] .ret)))
def rv21:List RV:=[.t 6]
def cz (g:G) (t:TE) (a0:Network) (x1:List Scan):Nat→Int→List Scan→Option (List Scan)
 |0,v1,w1=>
  some w1
 |n1+1,v1,w1=>
  gt x1 (g.nat v1) fun x2=>
  br (g.eq (g.int (g.dlen (t.d_Scan w1))) 0)
  (
   lP ([(Scan.mk x2.Thing x2.At x2.Kind x2.Place (Trip.mk x2.Trip.Leg x2.Trip.Day))]) fun(l2:List Scan)=>
   gd (((w1.length+l2.length)*56≤70368744177664))<|
   lP (w1++l2) fun(l3:List Scan)=>
   cz g t a0 x1 n1 (g.wrap .i64 (g.add v1 1)) l3)
  (
   gd (((0:Int)≤(g.wrap .i64 (g.sub (g.int (g.dlen (t.d_Scan w1))) 1))∧(g.wrap .i64 (g.sub (g.int (g.dlen (t.d_Scan w1))) 1))<(((g.dlen (t.d_Scan w1)):Nat):Int)))<|
   gt w1 (g.nat (g.wrap .i64 (g.sub (g.int (g.dlen (t.d_Scan w1))) 1))) fun x3=>
   cl (dJ g t a0 (Scan.mk x3.Thing x3.At x3.Kind x3.Place (Trip.mk x3.Trip.Leg x3.Trip.Day)) (Scan.mk x2.Thing x2.At x2.Kind x2.Place (Trip.mk x2.Trip.Leg x2.Trip.Day))) fun x4=>
   br x4
   (
    lP ([(Scan.mk x2.Thing x2.At x2.Kind x2.Place (Trip.mk x2.Trip.Leg x2.Trip.Day))]) fun(l4:List Scan)=>
    gd (((w1.length+l4.length)*56≤70368744177664))<|
    lP (w1++l4) fun(l5:List Scan)=>
    cz g t a0 x1 n1 (g.wrap .i64 (g.add v1 1)) l5)
   (
    cz g t a0 x1 n1 (g.wrap .i64 (g.add v1 1)) w1))
def dk (g:G) (t:TE) (a0:Network) (a1:List Scan) (a2:Int):Option (List Scan):=
 lP ([]) fun(l1:List Scan)=>
 cl (d7 g t a0 a1 a2) fun x1=>
 gd (((g.int (g.dlen (t.d_Scan x1)))≤9223372036854775807))<|
 cl (cz g t a0 x1 (ap 0 (g.int (g.dlen (t.d_Scan x1)))) 0 l1) fun y1=>
 some y1
theorem ik {g:G} {t:TE} {a0:Network} {a1:List Scan} {a2:Int} {r:List Scan} (hg:g=G.real) (ht:t=TE.real) (h:dk g t a0 a1 a2=some r):Fn Tryz.prog 21 [.g (Network.rs t a0),.c (.s 6 (t.r_Scan a1)),.c (.v (.int .i64 a2))] (.c (.o 6 (t.d_Scan r))):=by
 obtain⟨X,hX⟩:=aC (.c (.o 6 (t.d_Scan r)):X);rw[←hX];refine aA (rvs:=rv21) (j:=ir21) Tryz.func21 rfl (by kernel_rfl) (nb rfl) (by kernel_rfl) af ?_;intro g2 F hg2 hF;obtain rfl:g2=g:=hg2.unique.trans hg.symm;clear hg2;obtain⟨wrap,lt,_,eq,_,_,_,_,_,_,_,_,int,add,_,_,_,_,_,_,_,_,_,_,dlen⟩:=g2;obtain⟨_,_,_,d_Scan,r_Leg,_,r_I64⟩:=t
 obtain⟨a0_Legs,a0_Off,a0_Change⟩:=a0;unfold dk at h;try dsimp only at h
 cbv;obtain⟨l1,hl1,h⟩:=ah h;try dsimp only at h
 refine ANew.mk (d_Scan l1) (dlen (d_Scan l1)) (by rw[←hl1];exact aG hg ht []) (by rw[←hl1];exact ax hg ht []) ?_;cbv;obtain⟨x1,hx1,h⟩:=ae h;try dsimp only at h
 refine ACall.mk _ _ rfl (hF _ _ _ (hO hg ht hx1)) (.inl rfl) (nb rfl) ?_;cbv;obtain⟨hB1,h⟩:=ak h;obtain⟨o1,ho1,h⟩:=ae h;try dsimp only at h
 try rw[hg] at ho1
 try rw[ht] at ho1
 refine ABL.mk {p:Nat×Int×List Scan//p.1=ap p.2.1 (int (dlen (d_Scan x1)))∧0≤p.2.1∧cz G.real TE.real (Network.mk a0_Legs a0_Off a0_Change) x1 p.1 p.2.1 p.2.2=some o1} (fun⟨⟨n1,v1,w1⟩,_⟩=>({sl:=[(3,.c (.p 0 3 0 0)),(7,.c (.f 1 6 0 (dlen (d_Scan w1)))),(14,.c (.f 2 6 0 (dlen (d_Scan x1)))),(15,.c (.r (.v (.int .i64 (int (dlen (d_Scan x1))))))),(16,.c (.r (.v (.int .i64 v1))))],tab:=[(0,some (.foc 3 [] [.r (.s 6 (r_Leg a0_Legs)),.r (.s 1 (r_I64 a0_Off)),.r (.v (.int .i64 a0_Change))] [])),(1,some (.arr 6 (d_Scan w1))),(2,some (.arr 6 (d_Scan x1)))]}:St)) 3 (fun p=>p.1.1) ⟨(ap 0 (int (dlen (d_Scan x1))),0,l1),rfl,Int.le_refl _,ho1⟩ (List Scan) (fun y1=>({sl:=[(7,.c (.f 0 6 0 (dlen (d_Scan y1))))],tab:=[(0,some (.arr 6 (d_Scan y1)))]}:St)) 1 (fun y=>o1=y) ?_ ?_ ?_
 ·refine Wk.of [(0,some 0),(1,some 32),(2,some 112)] rfl rfl ?_ ?_
  ·cbv;all_goals exact⟨⟨_,rfl,rfl⟩,⟨_,rfl,rfl⟩,⟨_,rfl,rfl⟩,⟨_,rfl,rfl⟩,⟨_,rfl,rfl⟩,trivial⟩
  cbv;all_goals exact⟨⟨_,rfl,_,rfl,rfl,rfl,rfl,trivial⟩,⟨_,rfl,rfl⟩,⟨_,rfl,rfl⟩,trivial⟩
 ·rintro⟨⟨n1,v1,w1⟩,hn1,hi1,h_1⟩ hq1;try dsimp only at hn1 hi1 h_1
  clear hq1;cbv;rcases n1 with _|n1
  ·have hb1:lt v1 (int (dlen (d_Scan x1)))=false:=ba hg hn1;rw[cz] at h_1;try rw[←hg] at h_1
   try rw[←ht] at h_1
   try dsimp only at h_1
   rw[hb1];cbv;refine⟨w1,Wk.of [(0,some 1)] rfl rfl ?_ ?_,(Option.some.inj h_1).symm⟩
   ·cbv;all_goals exact⟨⟨_,rfl,rfl⟩,trivial⟩
   cbv;all_goals exact⟨⟨_,rfl,rfl⟩,trivial⟩
  have hb1:lt v1 (int (dlen (d_Scan x1)))=true:=bt hg hn1;have hl1:=cR hn1;have hs1:=bS hg hn1 hi1 hB1 (by decide);rw[cz] at h_1;try rw[←hg] at h_1
  try rw[←ht] at h_1
  try dsimp only at h_1
  rw[hb1];cbv;refine AStep.mk (di hg hi1 hl1) ?_;cbv;obtain⟨x2,hx2,h_1⟩:=aE h_1;obtain⟨x2_Thing,x2_At,x2_Kind,x2_Place,⟨x2_Trip_Leg,x2_Trip_Day⟩⟩:=x2;try dsimp only at h_1
  refine AGet.mk _ (aO hg ht hx2) ?_;cbv
  cases hb2:(eq (int (dlen (d_Scan w1))) 0)
  rotate_left
  ·rw[ab hb2] at h_1;cbv;iterate 9 try(rw[hb2];cbv)
   obtain⟨l2,hl2,h_1⟩:=ah h_1;try dsimp only at h_1
   refine ANew.mk (d_Scan l2) (dlen (d_Scan l2)) (by rw[←hl2];exact aG hg ht [(Scan.mk x2_Thing x2_At x2_Kind x2_Place (Trip.mk x2_Trip_Leg x2_Trip_Day))]) (by rw[←hl2];exact ax hg ht [(Scan.mk x2_Thing x2_At x2_Kind x2_Place (Trip.mk x2_Trip_Leg x2_Trip_Day))]) ?_;cbv;obtain⟨hc1,h_1⟩:=ak h_1;refine AStep.mk ⟨⟨rfl,(ac hg ht _)⟩,(au hg ht (ac hg ht _) rfl hc1)⟩ ?_;cbv;obtain⟨l3,hl3,h_1⟩:=ah h_1;try dsimp only at h_1
   refine ANew.mk (d_Scan l3) (dlen (d_Scan l3)) (by rw[←hl3];exact aR hg ht (ac hg ht _) rfl) (by rw[←hl3];exact aJ hg ht (ac hg ht _) rfl) ?_;cbv;try rw[hg] at h_1
   try rw[ht] at h_1
   refine⟨⟨(n1,(wrap .i64 (add v1 1)),l3),hs1.1,hs1.2,h_1⟩,Wk.of [(0,some 0),(1,some 355),(2,some 2)] rfl rfl ?_ ?_,Nat.lt_succ_self _⟩
   ·cbv;all_goals exact⟨⟨_,rfl,rfl⟩,⟨_,rfl,rfl⟩,⟨_,rfl,rfl⟩,⟨_,rfl,rfl⟩,⟨_,rfl,rfl⟩,trivial⟩
   cbv;all_goals exact⟨⟨_,rfl,_,rfl,rfl,rfl,rfl,trivial⟩,⟨_,rfl,rfl⟩,⟨_,rfl,rfl⟩,trivial⟩
  rw[aa hb2] at h_1;cbv;iterate 5 try(rw[hb2];cbv)
  obtain⟨hc2,h_1⟩:=ak h_1;refine AStep.mk hc2 ?_;cbv;try(rw[hb2];cbv)
  obtain⟨x3,hx3,h_1⟩:=aE h_1;obtain⟨x3_Thing,x3_At,x3_Kind,x3_Place,⟨x3_Trip_Leg,x3_Trip_Day⟩⟩:=x3;try dsimp only at h_1
  refine AGet.mk _ (aO hg ht hx3) ?_;cbv;iterate 2 try(rw[hb2];cbv)
  obtain⟨x4,hx4,h_1⟩:=ae h_1;try dsimp only at h_1
  refine ACall.mk _ _ rfl (hF _ _ _ (hG hg ht hx4)) (.inl rfl) (nb rfl) ?_;cbv;try(rw[hb2];cbv)
  cases hb3:x4
  ·rw[aa hb3] at h_1;cbv;try rw[hg] at h_1
   try rw[ht] at h_1
   refine⟨⟨(n1,(wrap .i64 (add v1 1)),w1),hs1.1,hs1.2,h_1⟩,Wk.of [(0,some 0),(1,some 1),(2,some 2)] rfl rfl ?_ ?_,Nat.lt_succ_self _⟩
   ·cbv;all_goals exact⟨⟨_,rfl,rfl⟩,⟨_,rfl,rfl⟩,⟨_,rfl,rfl⟩,⟨_,rfl,rfl⟩,⟨_,rfl,rfl⟩,trivial⟩
   cbv;all_goals exact⟨⟨_,rfl,_,rfl,rfl,rfl,rfl,trivial⟩,⟨_,rfl,rfl⟩,⟨_,rfl,rfl⟩,trivial⟩
  rw[ab hb3] at h_1;cbv;obtain⟨l4,hl4,h_1⟩:=ah h_1;try dsimp only at h_1
  refine ANew.mk (d_Scan l4) (dlen (d_Scan l4)) (by rw[←hl4];exact aG hg ht [(Scan.mk x2_Thing x2_At x2_Kind x2_Place (Trip.mk x2_Trip_Leg x2_Trip_Day))]) (by rw[←hl4];exact ax hg ht [(Scan.mk x2_Thing x2_At x2_Kind x2_Place (Trip.mk x2_Trip_Leg x2_Trip_Day))]) ?_;cbv;obtain⟨hc3,h_1⟩:=ak h_1;refine AStep.mk ⟨⟨rfl,(ac hg ht _)⟩,(au hg ht (ac hg ht _) rfl hc3)⟩ ?_;cbv;obtain⟨l5,hl5,h_1⟩:=ah h_1;try dsimp only at h_1
  refine ANew.mk (d_Scan l5) (dlen (d_Scan l5)) (by rw[←hl5];exact aR hg ht (ac hg ht _) rfl) (by rw[←hl5];exact aJ hg ht (ac hg ht _) rfl) ?_;cbv;try rw[hg] at h_1
  try rw[ht] at h_1
  refine⟨⟨(n1,(wrap .i64 (add v1 1)),l5),hs1.1,hs1.2,h_1⟩,Wk.of [(0,some 0),(1,some 355),(2,some 2)] rfl rfl ?_ ?_,Nat.lt_succ_self _⟩
  ·cbv;all_goals exact⟨⟨_,rfl,rfl⟩,⟨_,rfl,rfl⟩,⟨_,rfl,rfl⟩,⟨_,rfl,rfl⟩,⟨_,rfl,rfl⟩,trivial⟩
  cbv;all_goals exact⟨⟨_,rfl,_,rfl,rfl,rfl,rfl,trivial⟩,⟨_,rfl,rfl⟩,⟨_,rfl,rfl⟩,trivial⟩
 rintro y1 hy1;replace hy1:=hy1.symm;subst hy1;try dsimp only[lr,lrL,lrp,aZ] at h
 cbv;obtain rfl:=Option.some.inj h;exact ARet.mk ⟨rfl,(ac hg ht _)⟩ hX.symm
def ir64:J:=js [jq 2 (.mv (.k (.c .un)))] [0] (js [jm 5 0,jq 6 (.len false 5),jb 7 .mul .i (ki 3) 6,jb 8 .add .i (ki 744201) 7,jm 3 8] [0,3] (.seq (js [jm 4 (ki 0)] [0,3,4] (.bl 0 (.seq (js [jm 9 4,jm 10 0,jq 11 (.len false 10),jb 12 .lss .i 9 11,jm 13 12,ju 14 13 (.mv 4),ju 15 13 (.bin .lss .i 14 (ki 4000)),jq 16 (.pick 13 15 kf)] [0,3,4,16] (.cond 16 .skip (.exit 0))) (.seq (.block 1 (.reg none [jm 19 3,jb 20 .mul .i 19 (ki 167),jm 21 0,jm 22 4,ja 23 1 21 22,jk 24 23,jq 25 (.cvt .i64 24),jb 26 .add .i 20 25,jb 27 .add .i 26 (ki 29),jb 28 .and .i 27 (ki 1073741823),jm 3 28] [0,3,4])) (.reg none [jm 17 4,jb 18 .add .i 17 (ki 1),jm 4 18] [0,3,4]))))) (js [jm 29 0,jm 30 3,jq 31 (.bld [.n 1,.r (.v (.int .i64 0)),.r (.v (.int .i64 0))] [(0,1,29),(2,1,30)]),jq 32 (.box 31),jm 2 32] [2] .ret)))
def rv64:List RV:=[.t 2]
def i9 (g:G) (t:TE):List Int→Int→Int→Int
 |[],v2,v1=>
  v1
 |z1::ls1,v2,v1=>
  br (g.lt v2 4000)
  (
   i9 g t ls1 (g.wrap .i64 (g.add v2 1)) (g.band .i64 (g.wrap .i64 (g.add (g.wrap .i64 (g.add (g.wrap .i64 (g.mul v1 167)) (g.wrap .i64 z1))) 29)) 1073741823))
  (
   v1)
def og (g:G) (t:TE) (a0:List Int):Cur:=
 lP (i9 g t a0 0 (g.wrap .i64 (g.add 744201 (g.wrap .i64 (g.mul 3 (g.llen (t.r_U8 a0))))))) fun y1=>
 (Cur.mk a0 0 y1)
theorem tp {g:G} {t:TE} {a0:List Int} {r:Cur} (hg:g=G.real) (ht:t=TE.real) (h:og g t a0=r):Fn Tryz.prog 64 [.c (.s 1 (t.r_U8 a0))] (.p (Cur.ds t r)):=by
 obtain⟨X,hX⟩:=aC (.p (Cur.ds t r):X);rw[←hX];refine aA (rvs:=rv64) (j:=ir64) Tryz.func64 rfl (by kernel_rfl) (nb rfl) (by kernel_rfl) af ?_;intro g2 F hg2 hF;obtain rfl:g2=g:=hg2.unique.trans hg.symm;clear hg2;obtain⟨wrap,lt,_,_,_,_,band,_,_,_,_,_,_,add,_,mul,_,_,_,_,_,llen⟩:=g2;obtain⟨r_U8⟩:=t
 unfold og at h;try dsimp only at h
 cbv;obtain⟨o1,ho1,h⟩:=ah h;try dsimp only at h
 try rw[hg] at ho1
 try rw[ht] at ho1
 refine ABL.mk {p:Nat×Int×Int//p.1≤a0.length∧p.2.1=((p.1:Nat):Int)∧i9 G.real TE.real (List.drop p.1 a0) p.2.1 p.2.2=o1} (fun⟨⟨k1,v2,v1⟩,_⟩=>({sl:=[(0,.c (.r (.s 1 (r_U8 a0)))),(3,.c (.r (.v (.int .i64 v1)))),(4,.c (.r (.v (.int .i64 v2))))],tab:=[]}:St)) 0 (fun p=>a0.length-p.1.1) ⟨(0,0,(wrap .i64 (add 744201 (wrap .i64 (mul 3 (llen (r_U8 a0))))))),Nat.zero_le _,rfl,ho1⟩ (Int) (fun y1=>({sl:=[(0,.c (.r (.s 1 (r_U8 a0)))),(3,.c (.r (.v (.int .i64 y1))))],tab:=[]}:St)) 0 (fun y=>o1=y) ?_ ?_ ?_
 ·refine Wk.of [] rfl rfl ?_ ?_
  ·cbv;all_goals exact⟨⟨_,rfl,rfl⟩,⟨_,rfl,rfl⟩,⟨_,rfl,rfl⟩,trivial⟩
  cbv;all_goals exact trivial
 ·rintro⟨⟨k1,v2,v1⟩,hk1,hi1,h_1⟩ hq1;have hm1:=(hq1.1 0 _ _ rfl);try dsimp only at hk1 hi1 h_1
  clear hq1;cbv
  by_cases hc1_:k1<a0.length
  ·have hb1:lt v2 (llen (r_U8 a0))=true:=w9 hg ht hi1 hc1_;have hs1:=DD hg ht hi1 hc1_ hm1;obtain⟨z1,hz1⟩:=aX hc1_;rw[aH hz1] at h_1;rw[i9] at h_1;try rw[←hg] at h_1
   try rw[←ht] at h_1
   try dsimp only at h_1
   rw[hb1];cbv;iterate 2 try(rw[hb1];cbv)
   cases hb2:(lt v2 4000)
   ·rw[aa hb2] at h_1;cbv;refine⟨v1,Wk.of [] rfl rfl ?_ ?_,h_1.symm⟩
    ·cbv;all_goals exact⟨⟨_,rfl,rfl⟩,⟨_,rfl,rfl⟩,trivial⟩
    cbv;all_goals exact trivial
   rw[ab hb2] at h_1;cbv;refine AStep.mk (fP hi1) ?_;cbv;refine AGet.mk _ (BH hg ht hi1 hz1) ?_;cbv;try rw[hg] at h_1
   try rw[ht] at h_1
   refine⟨⟨(k1+1,(wrap .i64 (add v2 1)),(band .i64 (wrap .i64 (add (wrap .i64 (add (wrap .i64 (mul v1 167)) (wrap .i64 z1))) 29)) 1073741823)),hc1_,hs1,h_1⟩,Wk.of [] rfl rfl ?_ ?_,bc hc1_⟩
   ·cbv;all_goals exact⟨⟨_,rfl,rfl⟩,⟨_,rfl,rfl⟩,⟨_,rfl,rfl⟩,trivial⟩
   cbv;all_goals exact trivial
  have hb1:lt v2 (llen (r_U8 a0))=false:=ve hg ht hi1 hc1_;rw[List.drop_of_length_le (Nat.le_of_not_lt hc1_)] at h_1;rw[i9] at h_1;try rw[←hg] at h_1
  try rw[←ht] at h_1
  try dsimp only at h_1
  rw[hb1];cbv;iterate 2 try(rw[hb1];cbv)
  refine⟨v1,Wk.of [] rfl rfl ?_ ?_,h_1.symm⟩
  ·cbv;all_goals exact⟨⟨_,rfl,rfl⟩,⟨_,rfl,rfl⟩,trivial⟩
  cbv;all_goals exact trivial
 rintro y1 hy1;replace hy1:=hy1.symm;subst hy1;try dsimp only[lr,lrL,lrp,aZ] at h
 cbv;subst h;exact ARet.mk trivial hX.symm
def Hx:J:=js [jm 2 (ki 0)] [0] (js [jm 4 0,jm 5 0,jq 6 (.nilc 5),jf 7 2 6,jk 8 7,jb 9 .mul .i 8 (ki 6364136223846793005),jb 10 .add .i 9 (ki 1442695040888963407),jq 11 (.nilc 4),jf 12 2 11,jp (.st 1 12 10)] [0] (.seq (.reg (some [[],[0],[0,1],[0,1,2],[0,1,2,3],[],[5],[5,6],[5,6,7],[5,6,7,8],[0,1,2,3,4,5,6,7,8,9],[0,1,2,3,4,5,6,7,8,9,10],[0,1,2,3,4,5,6,7,8,9,10,11]]) [jm 13 0,jq 14 (.nilc 13),jf 15 2 14,jk 16 15,jq 17 (.bin .shr .i 16 (.k (.c (.r (.v (.int .u64 35)))))),jm 18 0,jq 19 (.nilc 18),jf 20 2 19,jk 21 20,jq 22 (.bin .shr .i 21 (.k (.c (.r (.v (.int .u64 45)))))),jb 23 .xor .i 17 22,jb 24 .and .i 23 (ki 255),jm 3 24] [0,3]) (.seq (.seq (.reg (some [[],[0],[0,1],[0,1,2],[],[4],[4,5],[4,5,6],[4,5,6,7],[0,1,2,3,4,5,6,7,8]]) [jm 25 0,jq 26 (.nilc 25),jf 27 1 26,jk 28 27,jm 29 0,jq 30 (.nilc 29),jf 31 0 30,jk 32 31,jq 33 (.len false 32),jb 34 .lss .i 28 33] [0,3,34]) (.cond 34 (.seq (.reg (some [[],[],[1],[1,2],[1,2,3],[],[5],[5,6],[5,6,7],[1,2,3,4,5,6,7,8],[1,2,3,4,5,6,7,8,9],[1,2,3,4,5,6,7,8,9,10],[0,1,2,3,4,5,6,7,8,9,10,11],[0,1,2,3,4,5,6,7,8,9,10,11,12],[0,1,2,3,4,5,6,7,8,9,10,11,12,13]]) [jm 35 3,jm 36 0,jq 37 (.nilc 36),jf 38 0 37,jk 39 38,jm 40 0,jq 41 (.nilc 40),jf 42 1 41,jk 43 42,ja 44 1 39 43,jk 45 44,jq 46 (.cvt .i64 45),jb 47 .add .i 35 46,jb 48 .and .i 47 (ki 255),jm 3 48] [0,3]) (.reg none [jm 49 0,jm 50 0,jq 51 (.nilc 50),jf 52 1 51,jk 53 52,jb 54 .add .i 53 (ki 1),jq 55 (.nilc 49),jf 56 1 55,jp (.st 1 56 54)] [3])) .skip)) (js [jm 57 3,jm 2 57] [2] .ret))))
def H2:List RV:=[.t 2]
def hT (g:G) (t:TE) (a0:Cur):Option (Int×Cur):=
 br (g.lt a0.i (g.llen (t.r_U8 a0.b)))
 (
  gd (((0:Int)≤a0.i))<|
  gt a0.b (g.nat a0.i) fun x1=>
  some (((g.band .i64 (g.wrap .i64 (g.add (g.band .i64 (g.bxor .i64 (g.shr .i64 (g.wrap .i64 (g.add (g.wrap .i64 (g.mul a0.h 6364136223846793005)) 1442695040888963407)) 35) (g.shr .i64 (g.wrap .i64 (g.add (g.wrap .i64 (g.mul a0.h 6364136223846793005)) 1442695040888963407)) 45)) 255) (g.wrap .i64 x1))) 255),(Cur.mk a0.b (g.wrap .i64 (g.add a0.i 1)) (g.wrap .i64 (g.add (g.wrap .i64 (g.mul a0.h 6364136223846793005)) 1442695040888963407))))))
 (
  some (((g.band .i64 (g.bxor .i64 (g.shr .i64 (g.wrap .i64 (g.add (g.wrap .i64 (g.mul a0.h 6364136223846793005)) 1442695040888963407)) 35) (g.shr .i64 (g.wrap .i64 (g.add (g.wrap .i64 (g.mul a0.h 6364136223846793005)) 1442695040888963407)) 45)) 255),(Cur.mk a0.b a0.i (g.wrap .i64 (g.add (g.wrap .i64 (g.mul a0.h 6364136223846793005)) 1442695040888963407))))))
theorem kE {g:G} {t:TE} {a0:Cur} {r:Int×Cur} (hg:g=G.real) (ht:t=TE.real) (h:hT g t a0=some r):FnM Tryz.prog 140 (.p (Cur.ds t a0)) [] (.c (.r (.v (.int .i64 r.1)))) (.p (Cur.ds t r.2)):=by
 obtain⟨X,hX⟩:=aC (.c (.r (.v (.int .i64 r.1))):X);obtain⟨Y,hY⟩:=aC (.p (Cur.ds t r.2):AM);rw[←hX,←hY];refine eI (rvs:=H2) (j:=Hx) Tryz.func140 rfl (by kernel_rfl) (nb rfl) (by kernel_rfl) af ?_;intro g2 F hg2 hF;obtain rfl:g2=g:=hg2.unique.trans hg.symm;clear hg2;obtain⟨_,lt,_,_,_,_,_,_,_,_,_,_,_,_,_,_,_,_,_,_,_,llen⟩:=g2;obtain⟨r_U8⟩:=t
 obtain⟨a0_b,a0_i,a0_h⟩:=a0;unfold hT at h;try dsimp only at h
 cbv;refine AStep.mk (by decide) ?_;cbv;refine AStep.mk (by decide) ?_;cbv
 cases hb1:(lt a0_i (llen (r_U8 a0_b)))
 ·rw[aa hb1] at h;cbv;obtain rfl:=Option.some.inj h;exact ARetM.mk trivial hX.symm hY.symm
 rw[ab hb1] at h;cbv;obtain⟨hc1,h⟩:=ak h;refine AStep.mk hc1 ?_;cbv;obtain⟨x1,hx1,h⟩:=aE h;try dsimp only at h
 refine AGet.mk _ (w7 hg ht hx1) ?_;cbv;obtain rfl:=Option.some.inj h;exact ARetM.mk trivial hX.symm hY.symm
def ir90:J:=js [jm 4 (ki 0)] [0,1] (.seq (js [jm 8 1,jb 9 .leq .i 8 (ki 0)] [0,1,9] (.cond 9 (js [jm 4 (ki 0)] [4] .ret) .skip)) (.seq (js [jm 10 1,jb 11 .leq .i 10 (ki 256)] [0,1,11] (.cond 11 (js [jm 12 0,jq 13 (.callm 140 true 12 []),jm 14 1,jb 15 .rem .i 13 14,jm 4 15] [4] .ret) .skip)) (js [jm 16 0,jq 17 (.callm 140 true 16 []),jm 5 17] [0,1,5] (js [jm 18 0,jq 19 (.callm 140 true 18 []),jm 6 19] [0,1,5,6] (js [jm 20 0,jq 21 (.callm 140 true 20 []),jm 7 21] [1,5,6,7] (js [jm 22 5,jb 23 .mul .i 22 (ki 65536),jm 24 6,jb 25 .mul .i 24 (ki 256),jb 26 .add .i 23 25,jm 27 7,jb 28 .add .i 26 27,jm 29 1,jb 30 .rem .i 28 29,jm 4 30] [4] .ret))))))
def rv90:List RV:=[.t 4]
def aF (g:G) (t:TE) (a0:Cur) (a1:Int):Option (Int×Cur):=
 br (g.le a1 0)
 (
  some ((0,a0)))
 (
  br (g.le a1 256)
  (
   cl (hT g t a0) fun x1=>
   gd ((a1≠0))<|
   some (((g.rem x1.1 a1),(Cur.mk x1.2.b x1.2.i x1.2.h))))
  (
   cl (hT g t a0) fun x2=>
   cl (hT g t (Cur.mk x2.2.b x2.2.i x2.2.h)) fun x3=>
   cl (hT g t (Cur.mk x3.2.b x3.2.i x3.2.h)) fun x4=>
   gd ((a1≠0))<|
   some (((g.rem (g.wrap .i64 (g.add (g.wrap .i64 (g.add (g.wrap .i64 (g.mul x2.1 65536)) (g.wrap .i64 (g.mul x3.1 256)))) x4.1)) a1),(Cur.mk x4.2.b x4.2.i x4.2.h)))))
theorem ay {g:G} {t:TE} {a0:Cur} {a1:Int} {r:Int×Cur} (hg:g=G.real) (ht:t=TE.real) (h:aF g t a0 a1=some r):FnM Tryz.prog 90 (.p (Cur.ds t a0)) [.c (.v (.int .i64 a1))] (.c (.r (.v (.int .i64 r.1)))) (.p (Cur.ds t r.2)):=by
 obtain⟨X,hX⟩:=aC (.c (.r (.v (.int .i64 r.1))):X);obtain⟨Y,hY⟩:=aC (.p (Cur.ds t r.2):AM);rw[←hX,←hY];refine eI (rvs:=rv90) (j:=ir90) Tryz.func90 rfl (by kernel_rfl) (nb rfl) (by kernel_rfl) af ?_;intro g2 F hg2 hF;obtain rfl:g2=g:=hg2.unique.trans hg.symm;clear hg2;obtain⟨_,_,le⟩:=g2;obtain⟨_⟩:=t
 obtain⟨a0_b,a0_i,a0_h⟩:=a0;unfold aF at h;try dsimp only at h
 cbv
 cases hb1:(le a1 0)
 rotate_left
 ·rw[ab hb1] at h;cbv;obtain rfl:=Option.some.inj h;exact ARetM.mk trivial hX.symm hY.symm
 rw[aa hb1] at h;cbv
 cases hb2:(le a1 256)
 rotate_left
 ·rw[ab hb2] at h;cbv;obtain⟨x1,hx1,h⟩:=ae h;obtain⟨x1_1,⟨x1_2_b,x1_2_i,x1_2_h⟩⟩:=x1;try dsimp only at h
  refine ACallM.mk _ _ _ _ rfl rfl (hF _ _ _ (kE hg ht hx1)) rfl (nb rfl) (nb rfl) ?_;cbv;obtain⟨hc1,h⟩:=ak h;refine AStep.mk hc1 ?_;cbv;obtain rfl:=Option.some.inj h;exact ARetM.mk trivial hX.symm hY.symm
 rw[aa hb2] at h;cbv;obtain⟨x2,hx2,h⟩:=ae h;obtain⟨x2_1,⟨x2_2_b,x2_2_i,x2_2_h⟩⟩:=x2;try dsimp only at h
 refine ACallM.mk _ _ _ _ rfl rfl (hF _ _ _ (kE hg ht hx2)) rfl (nb rfl) (nb rfl) ?_;cbv;obtain⟨x3,hx3,h⟩:=ae h;obtain⟨x3_1,⟨x3_2_b,x3_2_i,x3_2_h⟩⟩:=x3;try dsimp only at h
 refine ACallM.mk _ _ _ _ rfl rfl (hF _ _ _ (kE hg ht hx3)) rfl (nb rfl) (nb rfl) ?_;cbv;obtain⟨x4,hx4,h⟩:=ae h;obtain⟨x4_1,⟨x4_2_b,x4_2_i,x4_2_h⟩⟩:=x4;try dsimp only at h
 refine ACallM.mk _ _ _ _ rfl rfl (hF _ _ _ (kE hg ht hx4)) rfl (nb rfl) (nb rfl) ?_;cbv;obtain⟨hc2,h⟩:=ak h;refine AStep.mk hc2 ?_;cbv;obtain rfl:=Option.some.inj h;exact ARetM.mk trivial hX.symm hY.symm
def ir67:J:=js [jm 4 kf] [0,1] (js [jm 5 0,jm 6 1,jq 7 (.callm 90 true 5 [6]),jb 8 .eql .i 7 (ki 0),jm 4 8] [4] .ret)
def rv67:List RV:=[.t 4]
def cr (g:G) (t:TE) (a0:Cur) (a1:Int):Option (Bool×Cur):=
 cl (aF g t a0 a1) fun x1=>
 some (((g.eq x1.1 0),(Cur.mk x1.2.b x1.2.i x1.2.h)))
theorem bZ {g:G} {t:TE} {a0:Cur} {a1:Int} {r:Bool×Cur} (hg:g=G.real) (ht:t=TE.real) (h:cr g t a0 a1=some r):FnM Tryz.prog 67 (.p (Cur.ds t a0)) [.c (.v (.int .i64 a1))] (.c (.r (.v (.bool r.1)))) (.p (Cur.ds t r.2)):=by
 obtain⟨X,hX⟩:=aC (.c (.r (.v (.bool r.1))):X);obtain⟨Y,hY⟩:=aC (.p (Cur.ds t r.2):AM);rw[←hX,←hY];refine eI (rvs:=rv67) (j:=ir67) Tryz.func67 rfl (by kernel_rfl) (nb rfl) (by kernel_rfl) af ?_;intro g2 F hg2 hF;obtain rfl:g2=g:=hg2.unique.trans hg.symm;clear hg2;obtain⟨_⟩:=g2;obtain⟨_⟩:=t
 obtain⟨a0_b,a0_i,a0_h⟩:=a0;unfold cr at h;try dsimp only at h
 cbv;obtain⟨x1,hx1,h⟩:=ae h;obtain⟨x1_1,⟨x1_2_b,x1_2_i,x1_2_h⟩⟩:=x1;try dsimp only at h
 refine ACallM.mk _ _ _ _ rfl rfl (hF _ _ _ (ay hg ht hx1)) rfl (nb rfl) (nb rfl) ?_;cbv;obtain rfl:=Option.some.inj h;exact ARetM.mk trivial hX.symm hY.symm
def ir72:J:=js [jm 4 (ki 0)] [0,1] (js [jm 5 1,jm 6 0,jm 7 1,jq 8 (.len false 7),jq 9 (.callm 90 true 6 [8]),ja 10 1 5 9,jk 11 10,jm 4 11] [4] .ret)
def rv72:List RV:=[.t 4]
def df (g:G) (t:TE) (a0:Cur) (a1:List Int):Option (Int×Cur):=
 cl (aF g t a0 (g.llen (t.r_I64 a1))) fun x1=>
 gd (((0:Int)≤x1.1))<|
 gt a1 (g.nat x1.1) fun x2=>
 some ((x2,(Cur.mk x1.2.b x1.2.i x1.2.h)))
theorem cK {g:G} {t:TE} {a0:Cur} {a1:List Int} {r:Int×Cur} (hg:g=G.real) (ht:t=TE.real) (h:df g t a0 a1=some r):FnM Tryz.prog 72 (.p (Cur.ds t a0)) [.c (.s 1 (t.r_I64 a1))] (.c (.r (.v (.int .i64 r.1)))) (.p (Cur.ds t r.2)):=by
 obtain⟨X,hX⟩:=aC (.c (.r (.v (.int .i64 r.1))):X);obtain⟨Y,hY⟩:=aC (.p (Cur.ds t r.2):AM);rw[←hX,←hY];refine eI (rvs:=rv72) (j:=ir72) Tryz.func72 rfl (by kernel_rfl) (nb rfl) (by kernel_rfl) af ?_;intro g2 F hg2 hF;obtain rfl:g2=g:=hg2.unique.trans hg.symm;clear hg2;obtain⟨_⟩:=g2;obtain⟨_⟩:=t
 obtain⟨a0_b,a0_i,a0_h⟩:=a0;unfold df at h;try dsimp only at h
 cbv;obtain⟨x1,hx1,h⟩:=ae h;obtain⟨x1_1,⟨x1_2_b,x1_2_i,x1_2_h⟩⟩:=x1;try dsimp only at h
 refine ACallM.mk _ _ _ _ rfl rfl (hF _ _ _ (ay hg ht hx1)) rfl (nb rfl) (nb rfl) ?_;cbv;obtain⟨hc1,h⟩:=ak h;refine AStep.mk hc1 ?_;cbv;obtain⟨x2,hx2,h⟩:=aE h;try dsimp only at h
 refine AGet.mk _ (e7 hg ht hx2) ?_;cbv;obtain rfl:=Option.some.inj h;exact ARetM.mk trivial hX.symm hY.symm
def Hv (s_k0:ByteArray):J:=js [jq 4 (.mv (.k (.c (.r (.v (.string s_k0))))))] [0,1] (js [jm 5 1,jm 6 0,jm 7 1,jq 8 (.len false 7),jq 9 (.callm 90 true 6 [8]),ja 10 1 5 9,jk 11 10,jm 4 11] [4] .ret)
def H7:List RV:=[.t 4]
def kY (g:G) (t:TE) (a0:Cur) (a1:List ByteArray):Option (ByteArray×Cur):=
 cl (aF g t a0 (g.llen (t.r_S a1))) fun x1=>
 gd (((0:Int)≤x1.1))<|
 gt a1 (g.nat x1.1) fun x2=>
 some ((x2,(Cur.mk x1.2.b x1.2.i x1.2.h)))
theorem pp {g:G} {t:TE} {a0:Cur} {a1:List ByteArray} {r:ByteArray×Cur} (hg:g=G.real) (ht:t=TE.real) (h:kY g t a0 a1=some r):FnM Tryz.prog 155 (.p (Cur.ds t a0)) [.c (.s 1 (t.r_S a1))] (.c (.r (.v (.string r.1)))) (.p (Cur.ds t r.2)):=by
 obtain⟨X,hX⟩:=aC (.c (.r (.v (.string r.1))):X);obtain⟨Y,hY⟩:=aC (.p (Cur.ds t r.2):AM);rw[←hX,←hY];refine eI (rvs:=H7) (j:=(Hv str_k0)) Tryz.func155 rfl (by kernel_rfl) (nb rfl) (by kernel_rfl) af ?_;intro g2 F hg2 hF;obtain rfl:g2=g:=hg2.unique.trans hg.symm;clear hg2;obtain⟨_⟩:=g2;obtain⟨_⟩:=t
 obtain⟨a0_b,a0_i,a0_h⟩:=a0;unfold kY at h;try dsimp only at h
 obtain⟨s_k0,hs_k0⟩:∃s,str_k0=s:=⟨_,rfl⟩;try rw[hs_k0] at h
 rw[hs_k0];cbv;obtain⟨x1,hx1,h⟩:=ae h;obtain⟨x1_1,⟨x1_2_b,x1_2_i,x1_2_h⟩⟩:=x1;try dsimp only at h
 refine ACallM.mk _ _ _ _ rfl rfl (hF _ _ _ (ay hg ht hx1)) rfl (nb rfl) (nb rfl) ?_;cbv;obtain⟨hc1,h⟩:=ak h;refine AStep.mk hc1 ?_;cbv;obtain⟨x2,hx2,h⟩:=aE h;try dsimp only at h
 refine AGet.mk _ (vo hg ht hx2) ?_;cbv;obtain rfl:=Option.some.inj h;exact ARetM.mk trivial hX.symm hY.symm
def Hr (s_k0 s_k1 s_k2 s_k3 s_k4 s_k5 s_k6 s_k7:ByteArray):J:=js [jq 2 (.mv (.k (.c (.r (.v (.string s_k0))))))] [0] (js [jm 3 0,jq 4 (.bslr 1 [(.k (.c (.r (.v (.string s_k1))))),(.k (.c (.r (.v (.string s_k2))))),(.k (.c (.r (.v (.string s_k3))))),(.k (.c (.r (.v (.string s_k4))))),(.k (.c (.r (.v (.string s_k5))))),(.k (.c (.r (.v (.string s_k6))))),(.k (.c (.r (.v (.string s_k7)))))]),jq 5 (.callm 155 true 3 [4]),jm 2 5] [2] .ret)
def Ie:List RV:=[.t 2]
def gP (g:G) (t:TE) (a0:Cur):Option (ByteArray×Cur):=
 lP ([jg,ll,lg,lN,yj,yY,yD]) fun(l1:List ByteArray)=>
 cl (kY g t a0 l1) fun x1=>
 some ((x1.1,(Cur.mk x1.2.b x1.2.i x1.2.h)))
theorem lq {g:G} {t:TE} {a0:Cur} {r:ByteArray×Cur} (hg:g=G.real) (ht:t=TE.real) (h:gP g t a0=some r):FnM Tryz.prog 124 (.p (Cur.ds t a0)) [] (.c (.r (.v (.string r.1)))) (.p (Cur.ds t r.2)):=by
 obtain⟨X,hX⟩:=aC (.c (.r (.v (.string r.1))):X);obtain⟨Y,hY⟩:=aC (.p (Cur.ds t r.2):AM);rw[←hX,←hY];refine eI (rvs:=Ie) (j:=(Hr str_k0 jg ll lg lN yj yY yD)) Tryz.func124 rfl (by kernel_rfl) (nb rfl) (by kernel_rfl) af ?_;intro g2 F hg2 hF;obtain rfl:g2=g:=hg2.unique.trans hg.symm;clear hg2;obtain⟨_⟩:=g2
 obtain⟨_,_,_,_,_,_,_,_,_,_,_,_,r_S⟩:=t;obtain⟨a0_b,a0_i,a0_h⟩:=a0;unfold gP at h;try dsimp only at h
 obtain⟨s_k0,hs_k0⟩:∃s,str_k0=s:=⟨_,rfl⟩;try rw[hs_k0] at h
 rw[hs_k0];obtain⟨s_k1,hs_k1⟩:∃s,jg=s:=⟨_,rfl⟩;try rw[hs_k1] at h
 rw[hs_k1];obtain⟨s_k2,hs_k2⟩:∃s,ll=s:=⟨_,rfl⟩;try rw[hs_k2] at h
 rw[hs_k2];obtain⟨s_k3,hs_k3⟩:∃s,lg=s:=⟨_,rfl⟩;try rw[hs_k3] at h
 rw[hs_k3];obtain⟨s_k4,hs_k4⟩:∃s,lN=s:=⟨_,rfl⟩;try rw[hs_k4] at h
 rw[hs_k4];obtain⟨s_k5,hs_k5⟩:∃s,yj=s:=⟨_,rfl⟩;try rw[hs_k5] at h
 rw[hs_k5];obtain⟨s_k6,hs_k6⟩:∃s,yY=s:=⟨_,rfl⟩;try rw[hs_k6] at h
 rw[hs_k6];obtain⟨s_k7,hs_k7⟩:∃s,yD=s:=⟨_,rfl⟩;try rw[hs_k7] at h
 rw[hs_k7];cbv;obtain⟨l1,hl1,h⟩:=ah h;try dsimp only at h
 refine AVal.mk (r_S l1) (by rw[←hl1];exact yK hg ht [s_k1,s_k2,s_k3,s_k4,s_k5,s_k6,s_k7]) ?_;cbv;obtain⟨x1,hx1,h⟩:=ae h;obtain⟨x1_1,⟨x1_2_b,x1_2_i,x1_2_h⟩⟩:=x1;try dsimp only at h
 refine ACallM.mk _ _ _ _ rfl rfl (hF _ _ _ (pp hg ht hx1)) rfl (nb rfl) (nb rfl) ?_;cbv;obtain rfl:=Option.some.inj h;exact ARetM.mk trivial hX.symm hY.symm
def HT (s_k1 s_k2 s_k3 s_k4:ByteArray):J:=js [jq 2 (.alloc [.r (.v (.string .empty)),.r (.v (.string .empty)),.r (.v (.int .i64 0)),.r (.v (.int .i64 0)),.r (.v (.int .i64 0)),.r (.v (.int .i64 0))])] [0,2] (js [jm 4 0,jq 5 (.callm 124 true 4 []),jm 6 0,jq 7 (.callm 124 true 6 []),jm 8 0,jq 9 (.callm 90 true 8 [(ki 48)]),jb 10 .mul .i (ki 30) 9,jm 11 0,jq 12 (.callm 90 true 11 [(ki 40)]),jb 13 .add .i (ki 1) 12,jb 14 .mul .i (ki 30) 13,jm 15 0,jq 16 (.callm 90 true 15 [(ki 127)]),jb 17 .add .i (ki 1) 16,jm 18 0,jq 19 (.callm 90 true 18 [(ki 60)]),jb 20 .mul .i (ki 1000) 19,jq 21 (.bld [.r (.v (.string .empty)),.r (.v (.string .empty)),.r (.v (.int .i64 0)),.r (.v (.int .i64 0)),.r (.v (.int .i64 0)),.r (.v (.int .i64 0))] [(0,1,5),(1,1,7),(2,1,10),(3,1,14),(4,1,17),(5,1,20)]),jq 3 (.alloc [.r (.v (.string .empty)),.r (.v (.string .empty)),.r (.v (.int .i64 0)),.r (.v (.int .i64 0)),.r (.v (.int .i64 0)),.r (.v (.int .i64 0))]),jp (.st 6 3 21)] [0,2,3] (.seq (.bl 0 (.seq (js [jf 22 0 3,jk 23 22,jf 24 1 3,jk 25 24,jb 26 .eql .s 23 25] [0,2,3,26] (.cond 26 .skip (.exit 0))) (.block 1 (js [jm 27 0,jq 28 (.bslr 1 [(.k (.c (.r (.v (.string s_k1))))),(.k (.c (.r (.v (.string s_k2))))),(.k (.c (.r (.v (.string s_k3)))))]),jq 29 (.callm 155 true 27 [28]),jf 30 1 3,jp (.st 1 30 29)] [0,2,3] (js [jf 31 0 3,jk 32 31,jf 33 1 3,jk 34 33,jb 35 .eql .s 32 34] [0,2,3,35] (.cond 35 (.reg none [jf 36 0 3,jp (.st 1 36 (.k (.c (.r (.v (.string s_k4))))))] [0,2,3]) .skip)))))) (.seq (js [jm 37 0,jq 38 (.callm 67 true 37 [(ki 2)])] [0,2,3,38] (.cond 38 (.reg none [jf 39 4 3,jp (.st 1 39 (ki 127))] [0,2,3]) .skip)) (.seq (js [jm 40 0,jq 41 (.callm 67 true 40 [(ki 9)])] [0,2,3,41] (.cond 41 (.reg none [jm 42 0,jq 43 (.bslr 1 [(ki 1),(ki 1440),(ki 4320)]),jq 44 (.callm 72 true 42 [43]),jf 45 3 3,jp (.st 1 45 44)] [2,3]) .skip)) (js [jl 46 6 3,jp (.st 6 2 46)] [2] .ret)))))
def Hn:List RV:=[.c 2 true 6]
def dQ (g:G) (t:TE):Nat→List Int→Int→Int→ByteArray→ByteArray→Option ((List Int)×Int×Int×ByteArray×ByteArray)
 |0,_,_,_,_,_=>none
 |n1+1,v1,v2,v3,v4,v5=>
  br (g.seq v4 v5)
  (
   lP ([jg,ll,lg]) fun(l1:List ByteArray)=>
   cl (kY g t (Cur.mk v1 v2 v3) l1) fun x7=>
   br (g.seq v4 x7.1)
   (
    dQ g t n1 x7.2.b x7.2.i x7.2.h lN x7.1)
   (
    dQ g t n1 x7.2.b x7.2.i x7.2.h v4 x7.1))
  (
   some (v1,v2,v3,v4,v5))
def nK (g:G) (t:TE) (a0:Cur):Option (Leg×Cur):=
 cl (gP g t a0) fun x1=>
 cl (gP g t (Cur.mk x1.2.b x1.2.i x1.2.h)) fun x2=>
 cl (aF g t (Cur.mk x2.2.b x2.2.i x2.2.h) 48) fun x3=>
 cl (aF g t (Cur.mk x3.2.b x3.2.i x3.2.h) 40) fun x4=>
 cl (aF g t (Cur.mk x4.2.b x4.2.i x4.2.h) 127) fun x5=>
 cl (aF g t (Cur.mk x5.2.b x5.2.i x5.2.h) 60) fun x6=>
 cl (dQ g t 1000000000 x6.2.b x6.2.i x6.2.h x1.1 x2.1) fun y1=>
 cl (cr g t (Cur.mk y1.1 y1.2.1 y1.2.2.1) 2) fun x8=>
 br x8.1
 (
  cl (cr g t (Cur.mk x8.2.b x8.2.i x8.2.h) 9) fun x9=>
  br x9.1
  (
   lP ([1,1440,4320]) fun(l2:List Int)=>
   cl (df g t (Cur.mk x9.2.b x9.2.i x9.2.h) l2) fun x10=>
   some (((Leg.mk y1.2.2.2.1 y1.2.2.2.2 (g.wrap .i64 (g.mul 30 x3.1)) x10.1 127 (g.wrap .i64 (g.mul 1000 x6.1))),(Cur.mk x10.2.b x10.2.i x10.2.h))))
  (
   some (((Leg.mk y1.2.2.2.1 y1.2.2.2.2 (g.wrap .i64 (g.mul 30 x3.1)) (g.wrap .i64 (g.mul 30 (g.wrap .i64 (g.add 1 x4.1)))) 127 (g.wrap .i64 (g.mul 1000 x6.1))),(Cur.mk x9.2.b x9.2.i x9.2.h)))))
 (
  cl (cr g t (Cur.mk x8.2.b x8.2.i x8.2.h) 9) fun x11=>
  br x11.1
  (
   lP ([1,1440,4320]) fun(l3:List Int)=>
   cl (df g t (Cur.mk x11.2.b x11.2.i x11.2.h) l3) fun x12=>
   some (((Leg.mk y1.2.2.2.1 y1.2.2.2.2 (g.wrap .i64 (g.mul 30 x3.1)) x12.1 (g.wrap .i64 (g.add 1 x5.1)) (g.wrap .i64 (g.mul 1000 x6.1))),(Cur.mk x12.2.b x12.2.i x12.2.h))))
  (
   some (((Leg.mk y1.2.2.2.1 y1.2.2.2.2 (g.wrap .i64 (g.mul 30 x3.1)) (g.wrap .i64 (g.mul 30 (g.wrap .i64 (g.add 1 x4.1)))) (g.wrap .i64 (g.add 1 x5.1)) (g.wrap .i64 (g.mul 1000 x6.1))),(Cur.mk x11.2.b x11.2.i x11.2.h)))))
theorem A5 {g:G} {t:TE} {a0:Cur} {r:Leg×Cur} (hg:g=G.real) (ht:t=TE.real) (h:nK g t a0=some r):FnM Tryz.prog 121 (.p (Cur.ds t a0)) [] (.g (Leg.ds t r.1)) (.p (Cur.ds t r.2)):=by
 obtain⟨X,hX⟩:=aC (.g (Leg.ds t r.1):X);obtain⟨Y,hY⟩:=aC (.p (Cur.ds t r.2):AM);rw[←hX,←hY];refine eI (rvs:=Hn) (j:=(HT jg ll lg lN)) Tryz.func121 rfl (by kernel_rfl) (nb rfl) (by kernel_rfl) af ?_;intro g2 F hg2 hF;obtain rfl:g2=g:=hg2.unique.trans hg.symm;clear hg2;obtain⟨wrap,_,_,_,_,_,_,_,_,_,_,_,_,add,_,mul,_,seq⟩:=g2;obtain⟨r_U8,_,_,_,_,_,r_I64,_,_,_,_,_,r_S⟩:=t
 obtain⟨a0_b,a0_i,a0_h⟩:=a0;unfold nK at h;try dsimp only at h
 obtain⟨s_k1,hs_k1⟩:∃s,jg=s:=⟨_,rfl⟩;try rw[hs_k1] at h
 rw[hs_k1];obtain⟨s_k2,hs_k2⟩:∃s,ll=s:=⟨_,rfl⟩;try rw[hs_k2] at h
 rw[hs_k2];obtain⟨s_k3,hs_k3⟩:∃s,lg=s:=⟨_,rfl⟩;try rw[hs_k3] at h
 rw[hs_k3];obtain⟨s_k4,hs_k4⟩:∃s,lN=s:=⟨_,rfl⟩;try rw[hs_k4] at h
 rw[hs_k4];cbv;obtain⟨x1,hx1,h⟩:=ae h;obtain⟨x1_1,⟨x1_2_b,x1_2_i,x1_2_h⟩⟩:=x1;try dsimp only at h
 refine ACallM.mk _ _ _ _ rfl rfl (hF _ _ _ (lq hg ht hx1)) rfl (nb rfl) (nb rfl) ?_;cbv;obtain⟨x2,hx2,h⟩:=ae h;obtain⟨x2_1,⟨x2_2_b,x2_2_i,x2_2_h⟩⟩:=x2;try dsimp only at h
 refine ACallM.mk _ _ _ _ rfl rfl (hF _ _ _ (lq hg ht hx2)) rfl (nb rfl) (nb rfl) ?_;cbv;obtain⟨x3,hx3,h⟩:=ae h;obtain⟨x3_1,⟨x3_2_b,x3_2_i,x3_2_h⟩⟩:=x3;try dsimp only at h
 refine ACallM.mk _ _ _ _ rfl rfl (hF _ _ _ (ay hg ht hx3)) rfl (nb rfl) (nb rfl) ?_;cbv;obtain⟨x4,hx4,h⟩:=ae h;obtain⟨x4_1,⟨x4_2_b,x4_2_i,x4_2_h⟩⟩:=x4;try dsimp only at h
 refine ACallM.mk _ _ _ _ rfl rfl (hF _ _ _ (ay hg ht hx4)) rfl (nb rfl) (nb rfl) ?_;cbv;obtain⟨x5,hx5,h⟩:=ae h;obtain⟨x5_1,⟨x5_2_b,x5_2_i,x5_2_h⟩⟩:=x5;try dsimp only at h
 refine ACallM.mk _ _ _ _ rfl rfl (hF _ _ _ (ay hg ht hx5)) rfl (nb rfl) (nb rfl) ?_;cbv;obtain⟨x6,hx6,h⟩:=ae h;obtain⟨x6_1,⟨x6_2_b,x6_2_i,x6_2_h⟩⟩:=x6;try dsimp only at h
 refine ACallM.mk _ _ _ _ rfl rfl (hF _ _ _ (ay hg ht hx6)) rfl (nb rfl) (nb rfl) ?_;cbv;obtain⟨o1,ho1,h⟩:=ae h;try dsimp only at h
 try rw[hg] at ho1
 try rw[ht] at ho1
 refine ABL.mk {p:Nat×(List Int)×Int×Int×ByteArray×ByteArray//dQ G.real TE.real p.1 p.2.1 p.2.2.1 p.2.2.2.1 p.2.2.2.2.1 p.2.2.2.2.2=some o1} (fun⟨⟨n1,v1,v2,v3,v4,v5⟩,_⟩=>({sl:=[(0,.c (.p 3 3 0 0)),(2,.c (.p 0 6 0 0)),(3,.c (.p 1 6 0 0))],tab:=[(0,some (.foc 6 [] [.r (.v (.string ByteArray.empty)),.r (.v (.string ByteArray.empty)),.r (.v (.int .i64 0)),.r (.v (.int .i64 0)),.r (.v (.int .i64 0)),.r (.v (.int .i64 0))] [])),(1,some (.foc 6 [] [.r (.v (.string v4)),.r (.v (.string v5)),.r (.v (.int .i64 (wrap .i64 (mul 30 x3_1)))),.r (.v (.int .i64 (wrap .i64 (mul 30 (wrap .i64 (add 1 x4_1)))))),.r (.v (.int .i64 (wrap .i64 (add 1 x5_1)))),.r (.v (.int .i64 (wrap .i64 (mul 1000 x6_1))))] [])),(3,some (.foc 3 [] [.r (.s 1 (r_U8 v1)),.r (.v (.int .i64 v2)),.r (.v (.int .i64 v3))] []))]}:St)) 4 (fun p=>p.1.1) ⟨(1000000000,x6_2_b,x6_2_i,x6_2_h,x1_1,x2_1),ho1⟩ ((List Int)×Int×Int×ByteArray×ByteArray) (fun⟨y1_1,y1_2_1,y1_2_2_1,y1_2_2_2_1,y1_2_2_2_2⟩=>({sl:=[(0,.c (.p 3 3 0 0)),(2,.c (.p 0 6 0 0)),(3,.c (.p 1 6 0 0))],tab:=[(0,some (.foc 6 [] [.r (.v (.string ByteArray.empty)),.r (.v (.string ByteArray.empty)),.r (.v (.int .i64 0)),.r (.v (.int .i64 0)),.r (.v (.int .i64 0)),.r (.v (.int .i64 0))] [])),(1,some (.foc 6 [] [.r (.v (.string y1_2_2_2_1)),.r (.v (.string y1_2_2_2_2)),.r (.v (.int .i64 (wrap .i64 (mul 30 x3_1)))),.r (.v (.int .i64 (wrap .i64 (mul 30 (wrap .i64 (add 1 x4_1)))))),.r (.v (.int .i64 (wrap .i64 (add 1 x5_1)))),.r (.v (.int .i64 (wrap .i64 (mul 1000 x6_1))))] [])),(3,some (.foc 3 [] [.r (.s 1 (r_U8 y1_1)),.r (.v (.int .i64 y1_2_1)),.r (.v (.int .i64 y1_2_2_1))] []))]}:St)) 4 (fun y=>o1=y) ?_ ?_ ?_
 ·refine Wk.of [(0,some 4),(1,some 308),(3,some 3)] rfl rfl ?_ ?_
  ·cbv;all_goals exact⟨⟨_,rfl,rfl⟩,⟨_,rfl,rfl⟩,⟨_,rfl,rfl⟩,trivial⟩
  cbv;all_goals exact⟨⟨_,rfl,_,rfl,rfl,rfl,rfl,rfl,rfl,rfl,trivial⟩,⟨_,rfl,_,rfl,rfl,rfl,rfl,rfl,rfl,rfl,trivial⟩,⟨_,rfl,_,rfl,rfl,rfl,rfl,trivial⟩,trivial⟩
 ·rintro⟨⟨n1,v1,v2,v3,v4,v5⟩,h_1⟩ hq1;try dsimp only at h_1
  clear hq1;rcases n1 with _|n1
  ·rw[dQ] at h_1;cases h_1
  rw[dQ] at h_1;try rw[←hg] at h_1
  try rw[←ht] at h_1
  try dsimp only at h_1
  try rw[hs_k1] at h_1
  try rw[hs_k2] at h_1
  try rw[hs_k3] at h_1
  try rw[hs_k4] at h_1
  cbv
  cases hb1:(seq v4 v5)
  ·rw[aa hb1] at h_1;cbv;refine⟨(v1,v2,v3,v4,v5),Wk.of [(0,some 0),(1,some 1),(3,some 3)] rfl rfl ?_ ?_,(Option.some.inj h_1).symm⟩
   ·cbv;all_goals exact⟨⟨_,rfl,rfl⟩,⟨_,rfl,rfl⟩,⟨_,rfl,rfl⟩,trivial⟩
   cbv;all_goals exact⟨⟨_,rfl,_,rfl,rfl,rfl,rfl,rfl,rfl,rfl,trivial⟩,⟨_,rfl,_,rfl,rfl,rfl,rfl,rfl,rfl,rfl,trivial⟩,⟨_,rfl,_,rfl,rfl,rfl,rfl,trivial⟩,trivial⟩
  rw[ab hb1] at h_1;cbv;obtain⟨l1,hl1,h_1⟩:=ah h_1;try dsimp only at h_1
  refine AVal.mk (r_S l1) (by rw[←hl1];exact yK hg ht [s_k1,s_k2,s_k3]) ?_;cbv;obtain⟨x7,hx7,h_1⟩:=ae h_1;obtain⟨x7_1,⟨x7_2_b,x7_2_i,x7_2_h⟩⟩:=x7;try dsimp only at h_1
  refine ACallM.mk _ _ _ _ rfl rfl (hF _ _ _ (pp hg ht hx7)) rfl (nb rfl) (nb rfl) ?_;cbv
  cases hb2:(seq v4 x7_1)
  ·rw[aa hb2] at h_1;cbv;try rw[hg] at h_1
   try rw[ht] at h_1
   refine⟨⟨(n1,x7_2_b,x7_2_i,x7_2_h,v4,x7_1),h_1⟩,Wk.of [(0,some 0),(1,some 1),(3,some 3)] rfl rfl ?_ ?_,Nat.lt_succ_self _⟩
   ·cbv;all_goals exact⟨⟨_,rfl,rfl⟩,⟨_,rfl,rfl⟩,⟨_,rfl,rfl⟩,trivial⟩
   cbv;all_goals exact⟨⟨_,rfl,_,rfl,rfl,rfl,rfl,rfl,rfl,rfl,trivial⟩,⟨_,rfl,_,rfl,rfl,rfl,rfl,rfl,rfl,rfl,trivial⟩,⟨_,rfl,_,rfl,rfl,rfl,rfl,trivial⟩,trivial⟩
  rw[ab hb2] at h_1;cbv;try rw[hg] at h_1
  try rw[ht] at h_1
  refine⟨⟨(n1,x7_2_b,x7_2_i,x7_2_h,s_k4,x7_1),h_1⟩,Wk.of [(0,some 0),(1,some 1),(3,some 3)] rfl rfl ?_ ?_,Nat.lt_succ_self _⟩
  ·cbv;all_goals exact⟨⟨_,rfl,rfl⟩,⟨_,rfl,rfl⟩,⟨_,rfl,rfl⟩,trivial⟩
  cbv;all_goals exact⟨⟨_,rfl,_,rfl,rfl,rfl,rfl,rfl,rfl,rfl,trivial⟩,⟨_,rfl,_,rfl,rfl,rfl,rfl,rfl,rfl,rfl,trivial⟩,⟨_,rfl,_,rfl,rfl,rfl,rfl,trivial⟩,trivial⟩
 rintro⟨y1_1,y1_2_1,y1_2_2_1,y1_2_2_2_1,y1_2_2_2_2⟩ hy1;replace hy1:=hy1.symm;subst hy1;try dsimp only[lr,lrL,lrp,aZ] at h
 cbv;obtain⟨x8,hx8,h⟩:=ae h;obtain⟨x8_1,⟨x8_2_b,x8_2_i,x8_2_h⟩⟩:=x8;try dsimp only at h
 refine ACallM.mk _ _ _ _ rfl rfl (hF _ _ _ (bZ hg ht hx8)) rfl (nb rfl) (nb rfl) ?_;cbv;have hb3:x8_1=true∨x8_1=false:=by cases x8_1<;>simp
 rcases hb3 with hb3|hb3
 ·rw[ab hb3] at h;have hK_:=h;subst hb3;have h:=hK_;clear hK_;cbv;obtain⟨x9,hx9,h⟩:=ae h;obtain⟨x9_1,⟨x9_2_b,x9_2_i,x9_2_h⟩⟩:=x9;try dsimp only at h
  refine ACallM.mk _ _ _ _ rfl rfl (hF _ _ _ (bZ hg ht hx9)) rfl (nb rfl) (nb rfl) ?_;cbv;have hb4:x9_1=true∨x9_1=false:=by cases x9_1<;>simp
  rcases hb4 with hb4|hb4
  ·rw[ab hb4] at h;have hK_:=h;subst hb4;have h:=hK_;clear hK_;cbv;obtain⟨l2,hl2,h⟩:=ah h;try dsimp only at h
   refine AVal.mk (r_I64 l2) (by rw[←hl2];exact dE hg ht [1,1440,4320]) ?_;cbv;obtain⟨x10,hx10,h⟩:=ae h;obtain⟨x10_1,⟨x10_2_b,x10_2_i,x10_2_h⟩⟩:=x10;try dsimp only at h
   refine ACallM.mk _ _ _ _ rfl rfl (hF _ _ _ (cK hg ht hx10)) rfl (nb rfl) (nb rfl) ?_;cbv;obtain rfl:=Option.some.inj h;exact ARetM.mk trivial hX.symm hY.symm
  rw[aa hb4] at h;have hK_:=h;subst hb4;have h:=hK_;clear hK_;cbv;obtain rfl:=Option.some.inj h;exact ARetM.mk trivial hX.symm hY.symm
 rw[aa hb3] at h;have hK_:=h;subst hb3;have h:=hK_;clear hK_;cbv;obtain⟨x11,hx11,h⟩:=ae h;obtain⟨x11_1,⟨x11_2_b,x11_2_i,x11_2_h⟩⟩:=x11;try dsimp only at h
 refine ACallM.mk _ _ _ _ rfl rfl (hF _ _ _ (bZ hg ht hx11)) rfl (nb rfl) (nb rfl) ?_;cbv;have hb5:x11_1=true∨x11_1=false:=by cases x11_1<;>simp
 rcases hb5 with hb5|hb5
 ·rw[ab hb5] at h;have hK_:=h;subst hb5;have h:=hK_;clear hK_;cbv;obtain⟨l3,hl3,h⟩:=ah h;try dsimp only at h
  refine AVal.mk (r_I64 l3) (by rw[←hl3];exact dE hg ht [1,1440,4320]) ?_;cbv;obtain⟨x12,hx12,h⟩:=ae h;obtain⟨x12_1,⟨x12_2_b,x12_2_i,x12_2_h⟩⟩:=x12;try dsimp only at h
  refine ACallM.mk _ _ _ _ rfl rfl (hF _ _ _ (cK hg ht hx12)) rfl (nb rfl) (nb rfl) ?_;cbv;obtain rfl:=Option.some.inj h;exact ARetM.mk trivial hX.symm hY.symm
 rw[aa hb5] at h;have hK_:=h;subst hb5;have h:=hK_;clear hK_;cbv;obtain rfl:=Option.some.inj h;exact ARetM.mk trivial hX.symm hY.symm
def ir65:J:=js [jq 4 (.alloc [.n 6,.n 1,.r (.v (.int .i64 0))])] [0,1,4] (js [jm 8 0,jq 9 (.callm 90 true 8 [(ki 9)]),jb 10 .mul .i (ki 15) 9,jq 11 (.bld [.n 6,.n 1,.r (.v (.int .i64 0))] [(2,1,10)]),jq 5 (.alloc [.n 6,.n 1,.r (.v (.int .i64 0))]),jp (.st 3 5 11)] [0,1,4,5] (.seq (js [jm 12 0,jm 13 1,jq 14 (.callm 90 true 12 [13]),jb 15 .add .i (ki 1) 14,jm 6 15] [0,1,4,5,6] (.bl 0 (.seq (js [jm 16 6,jb 17 .gtr .i 16 (ki 0)] [0,1,4,5,6,17] (.cond 17 .skip (.exit 0))) (.seq (.block 1 (js [jm 20 0,jq 21 (.callm 121 true 20 []),jq 7 (.alloc [.r (.v (.string .empty)),.r (.v (.string .empty)),.r (.v (.int .i64 0)),.r (.v (.int .i64 0)),.r (.v (.int .i64 0)),.r (.v (.int .i64 0))]),jp (.st 6 7 21)] [0,1,4,5,6,7] (js [jf 22 0 5,jk 23 22,jl 24 6 7,jq 25 (.bsl 6 [24]),jq 26 (.app 6 64 true 23 25),jf 27 0 5,jp (.st 1 27 26)] [0,1,4,5,6,7] (js [jm 28 0,jq 29 (.callm 67 true 28 [(ki 3)]),jm 30 29,ju 31 30 (.fa 0 5),ju 32 30 (.ld false 1 31),ju 33 30 (.len false 32),ju 34 30 (.mv 1),ju 35 30 (.bin .lss .i 33 34),jq 36 (.pick 30 35 kf)] [0,1,4,5,6,7,36] (.cond 36 (js [jf 37 0 5,jk 38 37,jf 39 0 5,jk 40 39,jq 41 (.len false 40),jb 42 .sub .i 41 (ki 1),ja 43 6 38 42,jf 44 1 43,jk 45 44,jf 46 0 7,jp (.st 1 46 45)] [0,1,4,5,6,7] (js [jf 47 0 5,jk 48 47,jf 49 0 5,jk 50 49,jq 51 (.len false 50),jb 52 .sub .i 51 (ki 1),ja 53 6 48 52,jf 54 0 53,jk 55 54,jf 56 1 7,jp (.st 1 56 55)] [0,1,4,5,6,7] (.seq (.reg (some [[],[0],[],[2],[2,3],[0,1,2,3,4],[0,1,2,3,4,5],[0,1,2,3,4,5,6],[0,1,2,3,4,5,6,7]]) [jf 57 2 7,jk 58 57,jm 59 0,jq 60 (.callm 90 true 59 [(ki 20)]),jb 61 .mul .i (ki 60) 60,jb 62 .add .i 58 61,jb 63 .rem .i 62 (ki 1440),jf 64 2 7,jp (.st 1 64 63)] [0,1,4,5,6,7]) (.reg none [jf 65 0 5,jk 66 65,jl 67 6 7,jq 68 (.bsl 6 [67]),jq 69 (.app 6 64 true 66 68),jf 70 0 5,jp (.st 1 70 69)] [0,1,4,5,6])))) .skip))))) (.reg none [jm 18 6,jb 19 .sub .i 18 (ki 1),jm 6 19] [0,1,4,5,6]))))) (.seq (js [jm 71 0,jq 72 (.callm 67 true 71 [(ki 2)])] [0,4,5,72] (.cond 72 (.reg none [jm 73 0,jq 74 (.callm 90 true 73 [(ki 3)]),jm 75 0,jq 76 (.callm 90 true 75 [(ki 4)]),jb 77 .add .i (ki 3) 76,jq 78 (.bsl 1 [74,77]),jf 79 1 5,jp (.st 1 79 78)] [4,5]) .skip)) (js [jl 80 3 5,jp (.st 3 4 80)] [4] .ret))))
def rv65:List RV:=[.c 4 true 3]
def cH (g:G) (t:TE) (a1:Int):Nat→List Int→Int→Int→List Leg→Int→Option ((List Int)×Int×Int×List Leg)
 |0,_,_,_,_,_=>none
 |n1+1,v1,v2,v3,w1,v4=>
  br (g.lt 0 v4)
  (
   cl (nK g t (Cur.mk v1 v2 v3)) fun x3=>
   lP ([(Leg.mk x3.1.From x3.1.To x3.1.Start x3.1.Takes x3.1.Days x3.1.Room)]) fun(l1:List Leg)=>
   gd (((w1.length+l1.length)*64≤70368744177664))<|
   lP (w1++l1) fun(l2:List Leg)=>
   cl (cr g t (Cur.mk x3.2.b x3.2.i x3.2.h) 3) fun x4=>
   br x4.1
   (
    br (g.lt (g.int (g.dlen (t.d_Leg l2))) a1)
    (
     gd (((0:Int)≤(g.wrap .i64 (g.sub (g.int (g.dlen (t.d_Leg l2))) 1))∧(g.wrap .i64 (g.sub (g.int (g.dlen (t.d_Leg l2))) 1))<(((g.dlen (t.d_Leg l2)):Nat):Int)))<|
     gt l2 (g.nat (g.wrap .i64 (g.sub (g.int (g.dlen (t.d_Leg l2))) 1))) fun x5=>
     gd (((0:Int)≤(g.wrap .i64 (g.sub (g.int (g.dlen (t.d_Leg l2))) 1))∧(g.wrap .i64 (g.sub (g.int (g.dlen (t.d_Leg l2))) 1))<(((g.dlen (t.d_Leg l2)):Nat):Int)))<|
     cl (aF g t (Cur.mk x4.2.b x4.2.i x4.2.h) 20) fun x6=>
     lP ([(Leg.mk x5.To x5.From (g.rem (g.wrap .i64 (g.add x3.1.Start (g.wrap .i64 (g.mul 60 x6.1)))) 1440) x3.1.Takes x3.1.Days x3.1.Room)]) fun(l3:List Leg)=>
     gd (((l2.length+l3.length)*64≤70368744177664))<|
     lP (l2++l3) fun(l4:List Leg)=>
     cH g t a1 n1 x6.2.b x6.2.i x6.2.h l4 (g.wrap .i64 (g.sub v4 1)))
    (
     cH g t a1 n1 x4.2.b x4.2.i x4.2.h l2 (g.wrap .i64 (g.sub v4 1))))
   (
    cH g t a1 n1 x4.2.b x4.2.i x4.2.h l2 (g.wrap .i64 (g.sub v4 1))))
  (
   some (v1,v2,v3,w1))
def kn (g:G) (t:TE) (a0:Cur) (a1:Int):Option (Network×Cur):=
 cl (aF g t a0 9) fun x1=>
 cl (aF g t (Cur.mk x1.2.b x1.2.i x1.2.h) a1) fun x2=>
 cl (cH g t a1 1000000000 x2.2.b x2.2.i x2.2.h [] (g.wrap .i64 (g.add 1 x2.1))) fun y1=>
 cl (cr g t (Cur.mk y1.1 y1.2.1 y1.2.2.1) 2) fun x7=>
 br x7.1
 (
  cl (aF g t (Cur.mk x7.2.b x7.2.i x7.2.h) 3) fun x8=>
  cl (aF g t (Cur.mk x8.2.b x8.2.i x8.2.h) 4) fun x9=>
  lP ([x8.1,(g.wrap .i64 (g.add 3 x9.1))]) fun(l5:List Int)=>
  some (((Network.mk y1.2.2.2 l5 (g.wrap .i64 (g.mul 15 x1.1))),(Cur.mk x9.2.b x9.2.i x9.2.h))))
 (
  some (((Network.mk y1.2.2.2 [] (g.wrap .i64 (g.mul 15 x1.1))),(Cur.mk x7.2.b x7.2.i x7.2.h))))
theorem qK {g:G} {t:TE} {a0:Cur} {a1:Int} {r:Network×Cur} (hg:g=G.real) (ht:t=TE.real) (h:kn g t a0 a1=some r):FnM Tryz.prog 65 (.p (Cur.ds t a0)) [.c (.v (.int .i64 a1))] (.g (Network.ds t r.1)) (.p (Cur.ds t r.2)):=by
 obtain⟨X,hX⟩:=aC (.g (Network.ds t r.1):X);obtain⟨Y,hY⟩:=aC (.p (Cur.ds t r.2):AM);rw[←hX,←hY];refine eI (rvs:=rv65) (j:=ir65) Tryz.func65 rfl (by kernel_rfl) (nb rfl) (by kernel_rfl) af ?_;intro g2 F hg2 hF;obtain rfl:g2=g:=hg2.unique.trans hg.symm;clear hg2;obtain⟨wrap,lt,_,_,_,rem,_,_,_,_,_,_,int,add,sub,mul,_,_,_,_,_,_,_,_,dlen⟩:=g2;obtain⟨r_U8,_,_,_,_,d_Leg,_,d_I64⟩:=t
 obtain⟨a0_b,a0_i,a0_h⟩:=a0;have hnil_Leg:d_Leg []=[]:=Bm ht;have hnil_I64:d_I64 []=[]:=oW ht;unfold kn at h;try dsimp only at h
 cbv;obtain⟨x1,hx1,h⟩:=ae h;obtain⟨x1_1,⟨x1_2_b,x1_2_i,x1_2_h⟩⟩:=x1;try dsimp only at h
 refine ACallM.mk _ _ _ _ rfl rfl (hF _ _ _ (ay hg ht hx1)) rfl (nb rfl) (nb rfl) ?_;cbv;obtain⟨x2,hx2,h⟩:=ae h;obtain⟨x2_1,⟨x2_2_b,x2_2_i,x2_2_h⟩⟩:=x2;try dsimp only at h
 refine ACallM.mk _ _ _ _ rfl rfl (hF _ _ _ (ay hg ht hx2)) rfl (nb rfl) (nb rfl) ?_;cbv;obtain⟨o1,ho1,h⟩:=ae h;try dsimp only at h
 try rw[hg] at ho1
 try rw[ht] at ho1
 refine ABL.mk {p:Nat×(List Int)×Int×Int×(List Leg)×Int//cH G.real TE.real a1 p.1 p.2.1 p.2.2.1 p.2.2.2.1 p.2.2.2.2.1 p.2.2.2.2.2=some o1} (fun⟨⟨n1,v1,v2,v3,w1,v4⟩,_⟩=>({sl:=[(0,.c (.p 3 3 0 0)),(1,.c (.r (.v (.int .i64 a1)))),(4,.c (.p 0 3 0 0)),(5,.c (.p 1 3 0 0)),(6,.c (.r (.v (.int .i64 v4))))],tab:=[(0,some (.foc 3 [] [.n 6,.n 1,.r (.v (.int .i64 0))] [])),(1,some (.foc 3 [] [.f 2 6 0 (dlen (d_Leg w1)),.n 1,.r (.v (.int .i64 (wrap .i64 (mul 15 x1_1))))] [])),(2,some (.arr 6 (d_Leg w1))),(3,some (.foc 3 [] [.r (.s 1 (r_U8 v1)),.r (.v (.int .i64 v2)),.r (.v (.int .i64 v3))] []))]}:St)) 4 (fun p=>p.1.1) ⟨(1000000000,x2_2_b,x2_2_i,x2_2_h,[],(wrap .i64 (add 1 x2_1))),ho1⟩ ((List Int)×Int×Int×List Leg) (fun⟨y1_1,y1_2_1,y1_2_2_1,y1_2_2_2⟩=>({sl:=[(0,.c (.p 3 3 0 0)),(4,.c (.p 0 3 0 0)),(5,.c (.p 1 3 0 0))],tab:=[(0,some (.foc 3 [] [.n 6,.n 1,.r (.v (.int .i64 0))] [])),(1,some (.foc 3 [] [.f 2 6 0 (dlen (d_Leg y1_2_2_2)),.n 1,.r (.v (.int .i64 (wrap .i64 (mul 15 x1_1))))] [])),(2,some (.arr 6 (d_Leg y1_2_2_2))),(3,some (.foc 3 [] [.r (.s 1 (r_U8 y1_1)),.r (.v (.int .i64 y1_2_1)),.r (.v (.int .i64 y1_2_2_1))] []))]}:St)) 4 (fun y=>o1=y) ?_ ?_ ?_
 ·refine Wk.of [(0,some 4),(1,some 84),(2,none),(3,some 3)] rfl rfl ?_ ?_
  ·cbv;all_goals try rw[show dlen (d_Leg [])=0 from n5 hg ht]
   all_goals try rw[hnil_Leg]
   all_goals exact⟨⟨_,rfl,rfl⟩,⟨_,rfl,rfl⟩,⟨_,rfl,rfl⟩,⟨_,rfl,rfl⟩,⟨_,rfl,rfl⟩,trivial⟩
  cbv;all_goals try rw[show dlen (d_Leg [])=0 from n5 hg ht]
  all_goals try rw[hnil_Leg]
  all_goals exact⟨⟨_,rfl,_,rfl,rfl,rfl,rfl,trivial⟩,⟨_,rfl,_,rfl,⟨⟨_,rfl⟩,rfl,rfl⟩,rfl,rfl,trivial⟩,⟨_,rfl⟩,⟨_,rfl,_,rfl,rfl,rfl,rfl,trivial⟩,trivial⟩
 ·rintro⟨⟨n1,v1,v2,v3,w1,v4⟩,h_1⟩ hq1;try dsimp only at h_1
  clear hq1;rcases n1 with _|n1
  ·rw[cH] at h_1;cases h_1
  rw[cH] at h_1;try rw[←hg] at h_1
  try rw[←ht] at h_1
  try dsimp only at h_1
  cbv
  cases hb1:(lt 0 v4)
  ·rw[aa hb1] at h_1;cbv;refine⟨(v1,v2,v3,w1),Wk.of [(0,some 0),(1,some 1),(2,some 2),(3,some 3)] rfl rfl ?_ ?_,(Option.some.inj h_1).symm⟩
   ·cbv;all_goals exact⟨⟨_,rfl,rfl⟩,⟨_,rfl,rfl⟩,⟨_,rfl,rfl⟩,trivial⟩
   cbv;all_goals exact⟨⟨_,rfl,_,rfl,rfl,rfl,rfl,trivial⟩,⟨_,rfl,_,rfl,rfl,rfl,rfl,trivial⟩,⟨_,rfl,rfl⟩,⟨_,rfl,_,rfl,rfl,rfl,rfl,trivial⟩,trivial⟩
  rw[ab hb1] at h_1;cbv;obtain⟨x3,hx3,h_1⟩:=ae h_1;obtain⟨⟨x3_1_From,x3_1_To,x3_1_Start,x3_1_Takes,x3_1_Days,x3_1_Room⟩,⟨x3_2_b,x3_2_i,x3_2_h⟩⟩:=x3;try dsimp only at h_1
  refine ACallM.mk _ _ _ _ rfl rfl (hF _ _ _ (A5 hg ht hx3)) rfl (nb rfl) (nb rfl) ?_;cbv;obtain⟨l1,hl1,h_1⟩:=ah h_1;try dsimp only at h_1
  refine ANew.mk (d_Leg l1) (dlen (d_Leg l1)) (by rw[←hl1];exact vB hg ht [(Leg.mk x3_1_From x3_1_To x3_1_Start x3_1_Takes x3_1_Days x3_1_Room)]) (by rw[←hl1];exact rt hg ht [(Leg.mk x3_1_From x3_1_To x3_1_Start x3_1_Takes x3_1_Days x3_1_Room)]) ?_;cbv;obtain⟨hc4,h_1⟩:=ak h_1;refine AStep.mk ⟨⟨rfl,(bf hg ht _)⟩,(ng hg ht (bf hg ht _) rfl hc4)⟩ ?_;cbv;obtain⟨l2,hl2,h_1⟩:=ah h_1;try dsimp only at h_1
  refine ANew.mk (d_Leg l2) (dlen (d_Leg l2)) (by rw[←hl2];exact uU hg ht (bf hg ht _) rfl) (by rw[←hl2];exact rp hg ht (bf hg ht _) rfl) ?_;cbv;obtain⟨x4,hx4,h_1⟩:=ae h_1;obtain⟨x4_1,⟨x4_2_b,x4_2_i,x4_2_h⟩⟩:=x4;try dsimp only at h_1
  refine ACallM.mk _ _ _ _ rfl rfl (hF _ _ _ (bZ hg ht hx4)) rfl (nb rfl) (nb rfl) ?_;cbv;have hb2:x4_1=true∨x4_1=false:=by cases x4_1<;>simp
  rcases hb2 with hb2|hb2
  ·rw[ab hb2] at h_1;have hK_:=h_1;subst hb2;have h_1:=hK_;clear hK_;cbv;iterate 5 try(rw[hb2];cbv)
   cases hb3:(lt (int (dlen (d_Leg l2))) a1)
   ·rw[aa hb3] at h_1;cbv;try rw[hg] at h_1
    try rw[ht] at h_1
    refine⟨⟨(n1,x4_2_b,x4_2_i,x4_2_h,l2,(wrap .i64 (sub v4 1))),h_1⟩,Wk.of [(0,some 0),(1,some 1),(2,some 164),(3,some 3)] rfl rfl ?_ ?_,Nat.lt_succ_self _⟩
    ·cbv;all_goals exact⟨⟨_,rfl,rfl⟩,⟨_,rfl,rfl⟩,⟨_,rfl,rfl⟩,⟨_,rfl,rfl⟩,⟨_,rfl,rfl⟩,trivial⟩
    cbv;all_goals exact⟨⟨_,rfl,_,rfl,rfl,rfl,rfl,trivial⟩,⟨_,rfl,_,rfl,rfl,rfl,rfl,trivial⟩,⟨_,rfl,rfl⟩,⟨_,rfl,_,rfl,rfl,rfl,rfl,trivial⟩,trivial⟩
   rw[ab hb3] at h_1;cbv;obtain⟨hc1,h_1⟩:=ak h_1;refine AStep.mk hc1 ?_;cbv;obtain⟨x5,hx5,h_1⟩:=aE h_1;obtain⟨x5_From,x5_To,x5_Start,x5_Takes,x5_Days,x5_Room⟩:=x5;try dsimp only at h_1
   refine AGet.mk _ (f6 hg ht hx5) ?_;cbv;obtain⟨hc2,h_1⟩:=ak h_1;refine AStep.mk hc2 ?_;cbv;refine AGet.mk _ (f6 hg ht hx5) ?_;cbv;obtain⟨x6,hx6,h_1⟩:=ae h_1;obtain⟨x6_1,⟨x6_2_b,x6_2_i,x6_2_h⟩⟩:=x6;try dsimp only at h_1
   refine ACallM.mk _ _ _ _ rfl rfl (hF _ _ _ (ay hg ht hx6)) rfl (nb rfl) (nb rfl) ?_;cbv;refine AStep.mk (by decide) ?_;cbv;obtain⟨l3,hl3,h_1⟩:=ah h_1;try dsimp only at h_1
   refine ANew.mk (d_Leg l3) (dlen (d_Leg l3)) (by rw[←hl3];exact vB hg ht [(Leg.mk x5_To x5_From (rem (wrap .i64 (add x3_1_Start (wrap .i64 (mul 60 x6_1)))) 1440) x3_1_Takes x3_1_Days x3_1_Room)]) (by rw[←hl3];exact rt hg ht [(Leg.mk x5_To x5_From (rem (wrap .i64 (add x3_1_Start (wrap .i64 (mul 60 x6_1)))) 1440) x3_1_Takes x3_1_Days x3_1_Room)]) ?_;cbv;obtain⟨hc3,h_1⟩:=ak h_1;refine AStep.mk ⟨⟨rfl,(bf hg ht _)⟩,(ng hg ht (bf hg ht _) rfl hc3)⟩ ?_;cbv;obtain⟨l4,hl4,h_1⟩:=ah h_1;try dsimp only at h_1
   refine ANew.mk (d_Leg l4) (dlen (d_Leg l4)) (by rw[←hl4];exact uU hg ht (bf hg ht _) rfl) (by rw[←hl4];exact rp hg ht (bf hg ht _) rfl) ?_;cbv;try rw[hg] at h_1
   try rw[ht] at h_1
   refine⟨⟨(n1,x6_2_b,x6_2_i,x6_2_h,l4,(wrap .i64 (sub v4 1))),h_1⟩,Wk.of [(0,some 0),(1,some 1),(2,some 916),(3,some 3)] rfl rfl ?_ ?_,Nat.lt_succ_self _⟩
   ·cbv;all_goals exact⟨⟨_,rfl,rfl⟩,⟨_,rfl,rfl⟩,⟨_,rfl,rfl⟩,⟨_,rfl,rfl⟩,⟨_,rfl,rfl⟩,trivial⟩
   cbv;all_goals exact⟨⟨_,rfl,_,rfl,rfl,rfl,rfl,trivial⟩,⟨_,rfl,_,rfl,rfl,rfl,rfl,trivial⟩,⟨_,rfl,rfl⟩,⟨_,rfl,_,rfl,rfl,rfl,rfl,trivial⟩,trivial⟩
  rw[aa hb2] at h_1;have hK_:=h_1;subst hb2;have h_1:=hK_;clear hK_;cbv;iterate 5 try(rw[hb2];cbv)
  try rw[hg] at h_1
  try rw[ht] at h_1
  refine⟨⟨(n1,x4_2_b,x4_2_i,x4_2_h,l2,(wrap .i64 (sub v4 1))),h_1⟩,Wk.of [(0,some 0),(1,some 1),(2,some 164),(3,some 3)] rfl rfl ?_ ?_,Nat.lt_succ_self _⟩
  ·cbv;all_goals exact⟨⟨_,rfl,rfl⟩,⟨_,rfl,rfl⟩,⟨_,rfl,rfl⟩,⟨_,rfl,rfl⟩,⟨_,rfl,rfl⟩,trivial⟩
  cbv;all_goals exact⟨⟨_,rfl,_,rfl,rfl,rfl,rfl,trivial⟩,⟨_,rfl,_,rfl,rfl,rfl,rfl,trivial⟩,⟨_,rfl,rfl⟩,⟨_,rfl,_,rfl,rfl,rfl,rfl,trivial⟩,trivial⟩
 rintro⟨y1_1,y1_2_1,y1_2_2_1,y1_2_2_2⟩ hy1;replace hy1:=hy1.symm;subst hy1;try dsimp only[lr,lrL,lrp,aZ] at h
 cbv;obtain⟨x7,hx7,h⟩:=ae h;obtain⟨x7_1,⟨x7_2_b,x7_2_i,x7_2_h⟩⟩:=x7;try dsimp only at h
 refine ACallM.mk _ _ _ _ rfl rfl (hF _ _ _ (bZ hg ht hx7)) rfl (nb rfl) (nb rfl) ?_;cbv;have hb4:x7_1=true∨x7_1=false:=by cases x7_1<;>simp
 rcases hb4 with hb4|hb4
 ·rw[ab hb4] at h;have hK_:=h;subst hb4;have h:=hK_;clear hK_;cbv;obtain⟨x8,hx8,h⟩:=ae h;obtain⟨x8_1,⟨x8_2_b,x8_2_i,x8_2_h⟩⟩:=x8;try dsimp only at h
  refine ACallM.mk _ _ _ _ rfl rfl (hF _ _ _ (ay hg ht hx8)) rfl (nb rfl) (nb rfl) ?_;cbv;obtain⟨x9,hx9,h⟩:=ae h;obtain⟨x9_1,⟨x9_2_b,x9_2_i,x9_2_h⟩⟩:=x9;try dsimp only at h
  refine ACallM.mk _ _ _ _ rfl rfl (hF _ _ _ (ay hg ht hx9)) rfl (nb rfl) (nb rfl) ?_;cbv;obtain⟨l5,hl5,h⟩:=ah h;try dsimp only at h
  refine ANew.mk (d_I64 l5) (dlen (d_I64 l5)) (by rw[←hl5];exact cS hg ht [x8_1,(wrap .i64 (add 3 x9_1))]) (by rw[←hl5];exact co hg ht [x8_1,(wrap .i64 (add 3 x9_1))]) ?_;cbv;obtain rfl:=Option.some.inj h;exact ARetM.mk ⟨⟨rfl,(bf hg ht _)⟩,⟨rfl,(al hg ht _)⟩⟩ hX.symm hY.symm
 rw[aa hb4] at h;have hK_:=h;subst hb4;have h:=hK_;clear hK_;cbv;obtain rfl:=Option.some.inj h;exact ARetM.mk ⟨rfl,(bf hg ht _)⟩ (by rw[hX];first|rfl|(simp only[Trip.ds,Scan.ds,Leg.ds,Network.ds,Booking.ds,Belief.ds,Cur.ds,Spot.ds,Know.ds,hnil_I64];try rfl)) (by rw[hY];first|rfl|(simp only[Trip.ds,Scan.ds,Leg.ds,Network.ds,Booking.ds,Belief.ds,Cur.ds,Spot.ds,Know.ds,hnil_I64];try rfl))
def G3:J:=js [jq 2 (.alloc [.n 6,.n 1,.r (.v (.int .i64 0))])] [0,2] (js [jm 5 0,jq 6 (.callm 65 true 5 [(ki 6)]),jq 3 (.alloc [.n 6,.n 1,.r (.v (.int .i64 0))]),jp (.st 3 3 6)] [0,2,3] (js [jm 7 0,jf 8 0 3,jk 9 8,jq 10 (.len false 9),jq 11 (.callm 90 true 7 [10]),jm 4 11] [0,2,3,4] (.seq (js [jm 12 0,jq 13 (.callm 90 true 12 [(ki 10)])] [0,2,3,4,13] (.block 0 (js [jb 15 .eql .i 13 (ki 0),jm 14 15] [0,2,3,4,13,14] (.cond 14 (.reg (some [[],[0],[],[],[],[3,4],[0,1,2,3,4,5],[0,1,2,3,4,5,6],[0,1,2,3,4,5,6,7]]) [jf 16 0 3,jk 17 16,jm 18 4,jm 19 0,jq 20 (.bslr 1 [(.k (V.i (-1))),(ki 0),(ki 1439),(ki 1440)]),jq 21 (.callm 72 true 19 [20]),ja 22 6 17 18,jf 23 2 22,jp (.st 1 23 21)] [2,3]) (js [jb 25 .eql .i 13 (ki 1),jm 24 25] [0,2,3,4,13,24] (.cond 24 (.reg (some [[],[0],[],[],[],[3,4],[0,1,2,3,4,5],[0,1,2,3,4,5,6],[0,1,2,3,4,5,6,7]]) [jf 26 0 3,jk 27 26,jm 28 4,jm 29 0,jq 30 (.bslr 1 [(ki 0),(ki 1),(ki 4320),(ki 4321)]),jq 31 (.callm 72 true 29 [30]),ja 32 6 27 28,jf 33 3 32,jp (.st 1 33 31)] [2,3]) (js [jb 35 .eql .i 13 (ki 2),jm 34 35] [0,2,3,4,13,34] (.cond 34 (.reg (some [[],[0],[],[],[],[3,4],[0,1,2,3,4,5],[0,1,2,3,4,5,6],[0,1,2,3,4,5,6,7]]) [jf 36 0 3,jk 37 36,jm 38 4,jm 39 0,jq 40 (.bslr 1 [(ki 0),(ki 127),(ki 128),(.k (V.i (-1)))]),jq 41 (.callm 72 true 39 [40]),ja 42 6 37 38,jf 43 4 42,jp (.st 1 43 41)] [2,3]) (js [jb 45 .eql .i 13 (ki 3),jm 44 45] [0,2,3,4,13,44] (.cond 44 (.reg (some [[],[0],[],[],[2,3],[2,3,4],[0,1,2,3,4,5],[0,1,2,3,4,5,6],[0,1,2,3,4,5,6,7]]) [jf 46 1 3,jk 47 46,jm 48 0,jq 49 (.bslr 1 [(ki 0),(ki 60),(ki 61),(.k (V.i (-1)))]),jq 50 (.callm 72 true 48 [49]),jq 51 (.bsl 1 [50]),jq 52 (.app 1 8 true 47 51),jf 53 1 3,jp (.st 1 53 52)] [2,3]) (js [jb 55 .eql .i 13 (ki 4),jm 54 55] [0,2,3,4,13,54] (.cond 54 (.reg none [jm 56 0,jq 57 (.bslr 1 [(.k (V.i (-1))),(ki 240),(ki 241)]),jq 58 (.callm 72 true 56 [57]),jf 59 2 3,jp (.st 1 59 58)] [2,3]) (js [jb 61 .eql .i 13 (ki 5),jm 60 61] [0,2,3,4,13,60] (.cond 60 (.reg (some [[],[0],[],[],[3],[],[3,4,5],[3,4,5,6],[3,4,5,6,7],[0,1,2,3,4,5,6,7,8],[0,1,2,3,4,5,6,7,8,9],[0,1,2,3,4,5,6,7,8,9,10]]) [jf 62 0 3,jk 63 62,jm 64 4,jf 65 0 3,jk 66 65,jm 67 4,ja 68 6 66 67,jf 69 0 68,jk 70 69,ja 71 6 63 64,jf 72 1 71,jp (.st 1 72 70)] [2,3]) (js [jb 74 .eql .i 13 (ki 6),jm 73 74] [0,2,3,4,73] (.cond 73 (.seq (.bl 1 (.seq (js [jf 75 0 3,jk 76 75,jq 77 (.len false 76),jb 78 .lss .i 77 (ki 21)] [0,2,3,4,78] (.cond 78 .skip (.exit 1))) (.block 2 (.reg (some [[],[0],[],[2],[],[2,3,4],[2,3,4,5],[2,3,4,5,6],[0,1,2,3,4,5,6,7],[0,1,2,3,4,5,6,7,8],[0,1,2,3,4,5,6,7,8,9]]) [jf 79 0 3,jk 80 79,jf 81 0 3,jk 82 81,jm 83 4,ja 84 6 82 83,jl 85 6 84,jq 86 (.bsl 6 [85]),jq
 87 (.app 6 64 true 80 86),jf 88 0 3,jp (.st 1 88 87)] [0,2,3,4])))) (.reg (some [[],[0],[],[],[2,3],[0,1,2,3,4],[0,1,2,3,4,5],[0,1,2,3,4,5,6]]) [jf 89 0 3,jk 90 89,jm 91 0,jq 92 (.bslr 1 [(ki 20),(ki 21)]),jq 93 (.callm 72 true 91 [92]),jq 94 (.cut 6 90 93),jf 95 0 3,jp (.st 1 95 94)] [2,3])) .skip)))))))))))))))) (js [jl 96 3 3,jp (.st 3 2 96)] [2] .ret))))
def If:List RV:=[.c 2 true 3]
def fR (g:G) (t:TE) (x2:Int×Cur):Nat→List Leg→Option (List Leg)
 |0,_=>none
 |n1+1,w1=>
  br (g.lt (g.int (g.dlen (t.d_Leg w1))) 21)
  (
   gd (((0:Int)≤x2.1∧x2.1<(((g.dlen (t.d_Leg w1)):Nat):Int)))<|
   gt w1 (g.nat x2.1) fun x13=>
   lP ([x13]) fun(l12:List Leg)=>
   gd (((w1.length+l12.length)*64≤70368744177664))<|
   lP (w1++l12) fun(l13:List Leg)=>
   fR g t x2 n1 l13)
  (
   some w1)
def nz (g:G) (t:TE) (a0:Cur):Option (Network×Cur):=
 cl (kn g t a0 6) fun x1=>
 cl (aF g t (Cur.mk x1.2.b x1.2.i x1.2.h) (g.int (g.dlen (t.d_Leg x1.1.Legs)))) fun x2=>
 cl (aF g t (Cur.mk x2.2.b x2.2.i x2.2.h) 10) fun x3=>
 br (g.eq x3.1 0)
 (
  lP ([(-1),0,1439,1440]) fun(l1:List Int)=>
  cl (df g t (Cur.mk x3.2.b x3.2.i x3.2.h) l1) fun x4=>
  gd (((0:Int)≤x2.1∧x2.1<(((g.dlen (t.d_Leg x1.1.Legs)):Nat):Int)))<|
  gt x1.1.Legs (g.nat x2.1) fun x5=>
  lP (List.set x1.1.Legs (g.nat x2.1) (Leg.mk x5.From x5.To x4.1 x5.Takes x5.Days x5.Room)) fun(l2:List Leg)=>
  some (((Network.mk l2 x1.1.Off x1.1.Change),(Cur.mk x4.2.b x4.2.i x4.2.h))))
 (
  br (g.eq x3.1 1)
  (
   lP ([0,1,4320,4321]) fun(l3:List Int)=>
   cl (df g t (Cur.mk x3.2.b x3.2.i x3.2.h) l3) fun x6=>
   gd (((0:Int)≤x2.1∧x2.1<(((g.dlen (t.d_Leg x1.1.Legs)):Nat):Int)))<|
   gt x1.1.Legs (g.nat x2.1) fun x7=>
   lP (List.set x1.1.Legs (g.nat x2.1) (Leg.mk x7.From x7.To x7.Start x6.1 x7.Days x7.Room)) fun(l4:List Leg)=>
   some (((Network.mk l4 x1.1.Off x1.1.Change),(Cur.mk x6.2.b x6.2.i x6.2.h))))
  (
   br (g.eq x3.1 2)
   (
    lP ([0,127,128,(-1)]) fun(l5:List Int)=>
    cl (df g t (Cur.mk x3.2.b x3.2.i x3.2.h) l5) fun x8=>
    gd (((0:Int)≤x2.1∧x2.1<(((g.dlen (t.d_Leg x1.1.Legs)):Nat):Int)))<|
    gt x1.1.Legs (g.nat x2.1) fun x9=>
    lP (List.set x1.1.Legs (g.nat x2.1) (Leg.mk x9.From x9.To x9.Start x9.Takes x8.1 x9.Room)) fun(l6:List Leg)=>
    some (((Network.mk l6 x1.1.Off x1.1.Change),(Cur.mk x8.2.b x8.2.i x8.2.h))))
   (
    br (g.eq x3.1 3)
    (
     lP ([0,60,61,(-1)]) fun(l7:List Int)=>
     cl (df g t (Cur.mk x3.2.b x3.2.i x3.2.h) l7) fun x10=>
     lP ([x10.1]) fun(l8:List Int)=>
     gd (((x1.1.Off.length+l8.length)*8≤70368744177664))<|
     lP (x1.1.Off++l8) fun(l9:List Int)=>
     some (((Network.mk x1.1.Legs l9 x1.1.Change),(Cur.mk x10.2.b x10.2.i x10.2.h))))
    (
     br (g.eq x3.1 4)
     (
      lP ([(-1),240,241]) fun(l10:List Int)=>
      cl (df g t (Cur.mk x3.2.b x3.2.i x3.2.h) l10) fun x11=>
      some (((Network.mk x1.1.Legs x1.1.Off x11.1),(Cur.mk x11.2.b x11.2.i x11.2.h))))
     (
      br (g.eq x3.1 5)
      (
       gd (((0:Int)≤x2.1∧x2.1<(((g.dlen (t.d_Leg x1.1.Legs)):Nat):Int)))<|
       gt x1.1.Legs (g.nat x2.1) fun x12=>
       gd (((0:Int)≤x2.1∧x2.1<(((g.dlen (t.d_Leg x1.1.Legs)):Nat):Int)))<|
       lP (List.set x1.1.Legs (g.nat x2.1) (Leg.mk x12.From x12.From x12.Start x12.Takes x12.Days x12.Room)) fun(l11:List Leg)=>
       some (((Network.mk l11 x1.1.Off x1.1.Change),(Cur.mk x3.2.b x3.2.i x3.2.h))))
      (
       br (g.eq x3.1 6)
       (
        cl (fR g t x2 1000000000 x1.1.Legs) fun y1=>
        lP ([20,21]) fun(l14:List Int)=>
        cl (df g t (Cur.mk x3.2.b x3.2.i x3.2.h) l14) fun x14=>
        gd (((0:Int)≤x14.1∧x14.1≤(((g.dlen (t.d_Leg y1)):Nat):Int)))<|
        lP (List.take (g.nat x14.1) (List.drop 0 y1)) fun(l15:List Leg)=>
        some (((Network.mk l15 x1.1.Off x1.1.Change),(Cur.mk x14.2.b x14.2.i x14.2.h))))
       (
        some (((Network.mk x1.1.Legs x1.1.Off x1.1.Change),(Cur.mk x3.2.b x3.2.i x3.2.h))))))))))
theorem AO {g:G} {t:TE} {a0:Cur} {r:Network×Cur} (hg:g=G.real) (ht:t=TE.real) (h:nz g t a0=some r):FnM Tryz.prog 137 (.p (Cur.ds t a0)) [] (.g (Network.ds t r.1)) (.p (Cur.ds t r.2)):=by
 obtain⟨X,hX⟩:=aC (.g (Network.ds t r.1):X);obtain⟨Y,hY⟩:=aC (.p (Cur.ds t r.2):AM);rw[←hX,←hY];refine eI (rvs:=If) (j:=G3) Tryz.func137 rfl (by kernel_rfl) (nb rfl) (by kernel_rfl) af ?_;intro g2 F hg2 hF;obtain rfl:g2=g:=hg2.unique.trans hg.symm;clear hg2;obtain⟨_,lt,_,eq,_,_,_,_,_,_,_,_,int,_,_,_,_,_,_,_,_,_,_,_,dlen⟩:=g2;obtain⟨r_U8,_,_,_,_,d_Leg,r_I64,d_I64⟩:=t
 obtain⟨a0_b,a0_i,a0_h⟩:=a0;unfold nz at h;try dsimp only at h
 cbv;obtain⟨x1,hx1,h⟩:=ae h;obtain⟨⟨x1_1_Legs,x1_1_Off,x1_1_Change⟩,⟨x1_2_b,x1_2_i,x1_2_h⟩⟩:=x1;try dsimp only at h
 refine ACallM.mk _ _ _ _ rfl rfl (hF _ _ _ (qK hg ht hx1)) rfl (nb rfl) (nb rfl) ?_;cbv;obtain⟨x2,hx2,h⟩:=ae h;obtain⟨x2_1,⟨x2_2_b,x2_2_i,x2_2_h⟩⟩:=x2;try dsimp only at h
 refine ACallM.mk _ _ _ _ rfl rfl (hF _ _ _ (ay hg ht hx2)) rfl (nb rfl) (nb rfl) ?_;cbv;obtain⟨x3,hx3,h⟩:=ae h;obtain⟨x3_1,⟨x3_2_b,x3_2_i,x3_2_h⟩⟩:=x3;try dsimp only at h
 refine ACallM.mk _ _ _ _ rfl rfl (hF _ _ _ (ay hg ht hx3)) rfl (nb rfl) (nb rfl) ?_;cbv
 cases hb1:(eq x3_1 0)
 rotate_left
 ·rw[ab hb1] at h;cbv;obtain⟨l1,hl1,h⟩:=ah h;try dsimp only at h
  refine AVal.mk (r_I64 l1) (by rw[←hl1];exact dE hg ht [(-1),0,1439,1440]) ?_;cbv;obtain⟨x4,hx4,h⟩:=ae h;obtain⟨x4_1,⟨x4_2_b,x4_2_i,x4_2_h⟩⟩:=x4;try dsimp only at h
  refine ACallM.mk _ _ _ _ rfl rfl (hF _ _ _ (cK hg ht hx4)) rfl (nb rfl) (nb rfl) ?_;cbv;obtain⟨hc1,h⟩:=ak h;refine AStep.mk hc1 ?_;cbv;obtain⟨x5,hx5,h⟩:=aE h;obtain⟨x5_From,x5_To,x5_Start,x5_Takes,x5_Days,x5_Room⟩:=x5;try dsimp only at h
  refine AGet.mk _ (f6 hg ht hx5) ?_;cbv;obtain⟨l2,hl2,h⟩:=ah h;try dsimp only at h
  refine ANew.mk (d_Leg l2) _ (by rw[←hl2];exact oC hg ht _ _ (Leg.mk x5_From x5_To x4_1 x5_Takes x5_Days x5_Room)) rfl ?_;have hnl2:(dlen (d_Leg x1_1_Legs))=(d_Leg l2).length:=(by rw[←hl2,mr ht];exact(bf hg ht _));cbv;obtain rfl:=Option.some.inj h;exact ARetM.mk ⟨⟨rfl,hnl2⟩,⟨rfl,(al hg ht _)⟩⟩ hX.symm hY.symm
 rw[aa hb1] at h;cbv
 cases hb2:(eq x3_1 1)
 rotate_left
 ·rw[ab hb2] at h;cbv;obtain⟨l3,hl3,h⟩:=ah h;try dsimp only at h
  refine AVal.mk (r_I64 l3) (by rw[←hl3];exact dE hg ht [0,1,4320,4321]) ?_;cbv;obtain⟨x6,hx6,h⟩:=ae h;obtain⟨x6_1,⟨x6_2_b,x6_2_i,x6_2_h⟩⟩:=x6;try dsimp only at h
  refine ACallM.mk _ _ _ _ rfl rfl (hF _ _ _ (cK hg ht hx6)) rfl (nb rfl) (nb rfl) ?_;cbv;obtain⟨hc2,h⟩:=ak h;refine AStep.mk hc2 ?_;cbv;obtain⟨x7,hx7,h⟩:=aE h;obtain⟨x7_From,x7_To,x7_Start,x7_Takes,x7_Days,x7_Room⟩:=x7;try dsimp only at h
  refine AGet.mk _ (f6 hg ht hx7) ?_;cbv;obtain⟨l4,hl4,h⟩:=ah h;try dsimp only at h
  refine ANew.mk (d_Leg l4) _ (by rw[←hl4];exact oC hg ht _ _ (Leg.mk x7_From x7_To x7_Start x6_1 x7_Days x7_Room)) rfl ?_;have hnl4:(dlen (d_Leg x1_1_Legs))=(d_Leg l4).length:=(by rw[←hl4,mr ht];exact(bf hg ht _));cbv;obtain rfl:=Option.some.inj h;exact ARetM.mk ⟨⟨rfl,hnl4⟩,⟨rfl,(al hg ht _)⟩⟩ hX.symm hY.symm
 rw[aa hb2] at h;cbv
 cases hb3:(eq x3_1 2)
 rotate_left
 ·rw[ab hb3] at h;cbv;obtain⟨l5,hl5,h⟩:=ah h;try dsimp only at h
  refine AVal.mk (r_I64 l5) (by rw[←hl5];exact dE hg ht [0,127,128,(-1)]) ?_;cbv;obtain⟨x8,hx8,h⟩:=ae h;obtain⟨x8_1,⟨x8_2_b,x8_2_i,x8_2_h⟩⟩:=x8;try dsimp only at h
  refine ACallM.mk _ _ _ _ rfl rfl (hF _ _ _ (cK hg ht hx8)) rfl (nb rfl) (nb rfl) ?_;cbv;obtain⟨hc3,h⟩:=ak h;refine AStep.mk hc3 ?_;cbv;obtain⟨x9,hx9,h⟩:=aE h;obtain⟨x9_From,x9_To,x9_Start,x9_Takes,x9_Days,x9_Room⟩:=x9;try dsimp only at h
  refine AGet.mk _ (f6 hg ht hx9) ?_;cbv;obtain⟨l6,hl6,h⟩:=ah h;try dsimp only at h
  refine ANew.mk (d_Leg l6) _ (by rw[←hl6];exact oC hg ht _ _ (Leg.mk x9_From x9_To x9_Start x9_Takes x8_1 x9_Room)) rfl ?_;have hnl6:(dlen (d_Leg x1_1_Legs))=(d_Leg l6).length:=(by rw[←hl6,mr ht];exact(bf hg ht _));cbv;obtain rfl:=Option.some.inj h;exact ARetM.mk ⟨⟨rfl,hnl6⟩,⟨rfl,(al hg ht _)⟩⟩ hX.symm hY.symm
 rw[aa hb3] at h;cbv
 cases hb4:(eq x3_1 3)
 rotate_left
 ·rw[ab hb4] at h;cbv;obtain⟨l7,hl7,h⟩:=ah h;try dsimp only at h
  refine AVal.mk (r_I64 l7) (by rw[←hl7];exact dE hg ht [0,60,61,(-1)]) ?_;cbv;obtain⟨x10,hx10,h⟩:=ae h;obtain⟨x10_1,⟨x10_2_b,x10_2_i,x10_2_h⟩⟩:=x10;try dsimp only at h
  refine ACallM.mk _ _ _ _ rfl rfl (hF _ _ _ (cK hg ht hx10)) rfl (nb rfl) (nb rfl) ?_;cbv;obtain⟨l8,hl8,h⟩:=ah h;try dsimp only at h
  refine ANew.mk (d_I64 l8) (dlen (d_I64 l8)) (by rw[←hl8];exact cS hg ht [x10_1]) (by rw[←hl8];exact co hg ht [x10_1]) ?_;cbv;obtain⟨hc4,h⟩:=ak h;refine AStep.mk ⟨⟨rfl,(al hg ht _)⟩,(fM hg ht (al hg ht _) rfl hc4)⟩ ?_;cbv;obtain⟨l9,hl9,h⟩:=ah h;try dsimp only at h
  refine ANew.mk (d_I64 l9) (dlen (d_I64 l9)) (by rw[←hl9];exact kN hg ht (al hg ht _) rfl) (by rw[←hl9];exact je hg ht (al hg ht _) rfl) ?_;cbv;obtain rfl:=Option.some.inj h;exact ARetM.mk ⟨⟨rfl,(bf hg ht _)⟩,⟨rfl,(al hg ht _)⟩⟩ hX.symm hY.symm
 rw[aa hb4] at h;cbv
 cases hb5:(eq x3_1 4)
 rotate_left
 ·rw[ab hb5] at h;cbv;obtain⟨l10,hl10,h⟩:=ah h;try dsimp only at h
  refine AVal.mk (r_I64 l10) (by rw[←hl10];exact dE hg ht [(-1),240,241]) ?_;cbv;obtain⟨x11,hx11,h⟩:=ae h;obtain⟨x11_1,⟨x11_2_b,x11_2_i,x11_2_h⟩⟩:=x11;try dsimp only at h
  refine ACallM.mk _ _ _ _ rfl rfl (hF _ _ _ (cK hg ht hx11)) rfl (nb rfl) (nb rfl) ?_;cbv;obtain rfl:=Option.some.inj h;exact ARetM.mk ⟨⟨rfl,(bf hg ht _)⟩,⟨rfl,(al hg ht _)⟩⟩ hX.symm hY.symm
 rw[aa hb5] at h;cbv
 cases hb6:(eq x3_1 5)
 rotate_left
 ·rw[ab hb6] at h;cbv;obtain⟨hc5,h⟩:=ak h;refine AStep.mk hc5 ?_;cbv;obtain⟨x12,hx12,h⟩:=aE h;obtain⟨x12_From,x12_To,x12_Start,x12_Takes,x12_Days,x12_Room⟩:=x12;try dsimp only at h
  refine AGet.mk _ (f6 hg ht hx12) ?_;cbv;obtain⟨hc6,h⟩:=ak h;refine AStep.mk hc6 ?_;cbv;refine AGet.mk _ (f6 hg ht hx12) ?_;cbv;obtain⟨l11,hl11,h⟩:=ah h;try dsimp only at h
  refine ANew.mk (d_Leg l11) _ (by rw[←hl11];exact oC hg ht _ _ (Leg.mk x12_From x12_From x12_Start x12_Takes x12_Days x12_Room)) rfl ?_;have hnl11:(dlen (d_Leg x1_1_Legs))=(d_Leg l11).length:=(by rw[←hl11,mr ht];exact(bf hg ht _));cbv;obtain rfl:=Option.some.inj h;exact ARetM.mk ⟨⟨rfl,hnl11⟩,⟨rfl,(al hg ht _)⟩⟩ hX.symm hY.symm
 rw[aa hb6] at h;cbv
 cases hb7:(eq x3_1 6)
 ·rw[aa hb7] at h;cbv;obtain rfl:=Option.some.inj h;exact ARetM.mk ⟨⟨rfl,(bf hg ht _)⟩,⟨rfl,(al hg ht _)⟩⟩ hX.symm hY.symm
 rw[ab hb7] at h;cbv;obtain⟨o1,ho1,h⟩:=ae h;try dsimp only at h
 try rw[hg] at ho1
 try rw[ht] at ho1
 refine ABL.mk {p:Nat×List Leg//fR G.real TE.real (x2_1,(Cur.mk x2_2_b x2_2_i x2_2_h)) p.1 p.2=some o1} (fun⟨⟨n1,w1⟩,_⟩=>({sl:=[(0,.c (.p 3 3 0 0)),(2,.c (.p 0 3 0 0)),(3,.c (.p 1 3 0 0)),(4,.c (.r (.v (.int .i64 x2_1))))],tab:=[(0,some (.foc 3 [] [.n 6,.n 1,.r (.v (.int .i64 0))] [])),(1,some (.foc 3 [] [.f 2 6 0 (dlen (d_Leg w1)),.f 4 1 0 (dlen (d_I64 x1_1_Off)),.r (.v (.int .i64 x1_1_Change))] [])),(2,some (.arr 6 (d_Leg w1))),(3,some (.foc 3 [] [.r (.s 1 (r_U8 x3_2_b)),.r (.v (.int .i64 x3_2_i)),.r (.v (.int .i64 x3_2_h))] [])),(4,some (.arr 1 (d_I64 x1_1_Off)))]}:St)) 5 (fun p=>p.1.1) ⟨(1000000000,x1_1_Legs),ho1⟩ (List Leg) (fun y1=>({sl:=[(0,.c (.p 3 3 0 0)),(2,.c (.p 0 3 0 0)),(3,.c (.p 1 3 0 0))],tab:=[(0,some (.foc 3 [] [.n 6,.n 1,.r (.v (.int .i64 0))] [])),(1,some (.foc 3 [] [.f 2 6 0 (dlen (d_Leg y1)),.f 4 1 0 (dlen (d_I64 x1_1_Off)),.r (.v (.int .i64 x1_1_Change))] [])),(2,some (.arr 6 (d_Leg y1))),(3,some (.foc 3 [] [.r (.s 1 (r_U8 x3_2_b)),.r (.v (.int .i64 x3_2_i)),.r (.v (.int .i64 x3_2_h))] [])),(4,some (.arr 1 (d_I64 x1_1_Off)))]}:St)) 5 (fun y=>o1=y) ?_ ?_ ?_
 ·refine Wk.of [(0,some 4),(1,some 52),(2,some 36),(3,some 3),(4,some 37)] rfl rfl ?_ ?_
  ·cbv;all_goals exact⟨⟨_,rfl,rfl⟩,⟨_,rfl,rfl⟩,⟨_,rfl,rfl⟩,⟨_,rfl,rfl⟩,trivial⟩
  cbv;all_goals exact⟨⟨_,rfl,_,rfl,rfl,rfl,rfl,trivial⟩,⟨_,rfl,_,rfl,rfl,rfl,rfl,trivial⟩,⟨_,rfl,rfl⟩,⟨_,rfl,_,rfl,rfl,rfl,rfl,trivial⟩,⟨_,rfl,rfl⟩,trivial⟩
 ·rintro⟨⟨n1,w1⟩,h_1⟩ hq1;try dsimp only at h_1
  clear hq1;rcases n1 with _|n1
  ·rw[fR] at h_1;cases h_1
  rw[fR] at h_1;try rw[←hg] at h_1
  try rw[←ht] at h_1
  try dsimp only at h_1
  cbv
  cases hb8:(lt (int (dlen (d_Leg w1))) 21)
  ·rw[aa hb8] at h_1;cbv;refine⟨w1,Wk.of [(0,some 0),(1,some 1),(2,some 2),(3,some 3),(4,some 4)] rfl rfl ?_ ?_,(Option.some.inj h_1).symm⟩
   ·cbv;all_goals exact⟨⟨_,rfl,rfl⟩,⟨_,rfl,rfl⟩,⟨_,rfl,rfl⟩,trivial⟩
   cbv;all_goals exact⟨⟨_,rfl,_,rfl,rfl,rfl,rfl,trivial⟩,⟨_,rfl,_,rfl,rfl,rfl,rfl,trivial⟩,⟨_,rfl,rfl⟩,⟨_,rfl,_,rfl,rfl,rfl,rfl,trivial⟩,⟨_,rfl,rfl⟩,trivial⟩
  rw[ab hb8] at h_1;cbv;obtain⟨hc7,h_1⟩:=ak h_1;refine AStep.mk hc7 ?_;cbv;obtain⟨x13,hx13,h_1⟩:=aE h_1;obtain⟨x13_From,x13_To,x13_Start,x13_Takes,x13_Days,x13_Room⟩:=x13;try dsimp only at h_1
  refine AGet.mk _ (f6 hg ht hx13) ?_;cbv;obtain⟨l12,hl12,h_1⟩:=ah h_1;try dsimp only at h_1
  refine ANew.mk (d_Leg l12) (dlen (d_Leg l12)) (by rw[←hl12];exact vB hg ht [(Leg.mk x13_From x13_To x13_Start x13_Takes x13_Days x13_Room)]) (by rw[←hl12];exact rt hg ht [(Leg.mk x13_From x13_To x13_Start x13_Takes x13_Days x13_Room)]) ?_;cbv;obtain⟨hc8,h_1⟩:=ak h_1;refine AStep.mk ⟨⟨rfl,(bf hg ht _)⟩,(ng hg ht (bf hg ht _) rfl hc8)⟩ ?_;cbv;obtain⟨l13,hl13,h_1⟩:=ah h_1;try dsimp only at h_1
  refine ANew.mk (d_Leg l13) (dlen (d_Leg l13)) (by rw[←hl13];exact uU hg ht (bf hg ht _) rfl) (by rw[←hl13];exact rp hg ht (bf hg ht _) rfl) ?_;cbv;try rw[hg] at h_1
  try rw[ht] at h_1
  refine⟨⟨(n1,l13),h_1⟩,Wk.of [(0,some 0),(1,some 1),(2,some 197),(3,some 3),(4,some 4)] rfl rfl ?_ ?_,Nat.lt_succ_self _⟩
  ·cbv;all_goals exact⟨⟨_,rfl,rfl⟩,⟨_,rfl,rfl⟩,⟨_,rfl,rfl⟩,⟨_,rfl,rfl⟩,trivial⟩
  cbv;all_goals exact⟨⟨_,rfl,_,rfl,rfl,rfl,rfl,trivial⟩,⟨_,rfl,_,rfl,rfl,rfl,rfl,trivial⟩,⟨_,rfl,rfl⟩,⟨_,rfl,_,rfl,rfl,rfl,rfl,trivial⟩,⟨_,rfl,rfl⟩,trivial⟩
 rintro y1 hy1;replace hy1:=hy1.symm;subst hy1;try dsimp only[lr,lrL,lrp,aZ] at h
 cbv;obtain⟨l14,hl14,h⟩:=ah h;try dsimp only at h
 refine AVal.mk (r_I64 l14) (by rw[←hl14];exact dE hg ht [20,21]) ?_;cbv;obtain⟨x14,hx14,h⟩:=ae h;obtain⟨x14_1,⟨x14_2_b,x14_2_i,x14_2_h⟩⟩:=x14;try dsimp only at h
 refine ACallM.mk _ _ _ _ rfl rfl (hF _ _ _ (cK hg ht hx14)) rfl (nb rfl) (nb rfl) ?_;cbv;obtain⟨hc9,h⟩:=ak h;refine AStep.mk (ET hg (bf hg ht _) hc9) ?_;cbv;obtain⟨l15,hl15,h⟩:=ah h;try dsimp only at h
 refine ANew.mk (d_Leg l15) (dlen (d_Leg l15)) (by rw[←hl15];exact vW hg ht _ _ _) (by rw[←hl15];exact congrArg _ (vW hg ht _ _ _)) ?_;cbv;obtain rfl:=Option.some.inj h;exact ARetM.mk ⟨⟨rfl,(bf hg ht _)⟩,⟨rfl,(al hg ht _)⟩⟩ hX.symm hY.symm
def ir88:J:=js [jq 2 (.alloc [.n 6,.n 1,.r (.v (.int .i64 0))])] [0,2] (.seq (js [jm 3 0,jq 4 (.callm 67 true 3 [(ki 12)])] [0,2,4] (.cond 4 (js [jm 5 0,jq 6 (.callm 137 true 5 []),jp (.st 3 2 6)] [2] .ret) .skip)) (js [jm 7 0,jq 8 (.callm 65 true 7 [(ki 6)]),jp (.st 3 2 8)] [2] .ret))
def rv88:List RV:=[.c 2 true 3]
def mb (g:G) (t:TE) (a0:Cur):Option (Network×Cur):=
 cl (cr g t a0 12) fun x1=>
 br x1.1
 (
  cl (nz g t (Cur.mk x1.2.b x1.2.i x1.2.h)) fun x2=>
  some (((Network.mk x2.1.Legs x2.1.Off x2.1.Change),(Cur.mk x2.2.b x2.2.i x2.2.h))))
 (
  cl (kn g t (Cur.mk x1.2.b x1.2.i x1.2.h) 6) fun x3=>
  some (((Network.mk x3.1.Legs x3.1.Off x3.1.Change),(Cur.mk x3.2.b x3.2.i x3.2.h))))
theorem tL {g:G} {t:TE} {a0:Cur} {r:Network×Cur} (hg:g=G.real) (ht:t=TE.real) (h:mb g t a0=some r):FnM Tryz.prog 88 (.p (Cur.ds t a0)) [] (.g (Network.ds t r.1)) (.p (Cur.ds t r.2)):=by
 obtain⟨X,hX⟩:=aC (.g (Network.ds t r.1):X);obtain⟨Y,hY⟩:=aC (.p (Cur.ds t r.2):AM);rw[←hX,←hY];refine eI (rvs:=rv88) (j:=ir88) Tryz.func88 rfl (by kernel_rfl) (nb rfl) (by kernel_rfl) af ?_;intro g2 F hg2 hF;obtain rfl:g2=g:=hg2.unique.trans hg.symm;clear hg2;obtain⟨_⟩:=g2;obtain⟨_⟩:=t
 obtain⟨a0_b,a0_i,a0_h⟩:=a0;unfold mb at h;try dsimp only at h
 cbv;obtain⟨x1,hx1,h⟩:=ae h;obtain⟨x1_1,⟨x1_2_b,x1_2_i,x1_2_h⟩⟩:=x1;try dsimp only at h
 refine ACallM.mk _ _ _ _ rfl rfl (hF _ _ _ (bZ hg ht hx1)) rfl (nb rfl) (nb rfl) ?_;cbv;have hb1:x1_1=true∨x1_1=false:=by cases x1_1<;>simp
 rcases hb1 with hb1|hb1
 ·rw[ab hb1] at h;have hK_:=h;subst hb1;have h:=hK_;clear hK_;cbv;obtain⟨x2,hx2,h⟩:=ae h;obtain⟨⟨x2_1_Legs,x2_1_Off,x2_1_Change⟩,⟨x2_2_b,x2_2_i,x2_2_h⟩⟩:=x2;try dsimp only at h
  refine ACallM.mk _ _ _ _ rfl rfl (hF _ _ _ (AO hg ht hx2)) rfl (nb rfl) (nb rfl) ?_;cbv;obtain rfl:=Option.some.inj h;exact ARetM.mk ⟨⟨rfl,(bf hg ht _)⟩,⟨rfl,(al hg ht _)⟩⟩ hX.symm hY.symm
 rw[aa hb1] at h;have hK_:=h;subst hb1;have h:=hK_;clear hK_;cbv;obtain⟨x3,hx3,h⟩:=ae h;obtain⟨⟨x3_1_Legs,x3_1_Off,x3_1_Change⟩,⟨x3_2_b,x3_2_i,x3_2_h⟩⟩:=x3;try dsimp only at h
 refine ACallM.mk _ _ _ _ rfl rfl (hF _ _ _ (qK hg ht hx3)) rfl (nb rfl) (nb rfl) ?_;cbv;obtain rfl:=Option.some.inj h;exact ARetM.mk ⟨⟨rfl,(bf hg ht _)⟩,⟨rfl,(al hg ht _)⟩⟩ hX.symm hY.symm
def ir58:J:=js [jq 1 (.box 0),jq 2 (.mv (.k (.c (.n 1))))] [1] (js [jq 7 (.bsl 1 []),jm 3 7] [1,3] (.seq (js [jm 4 (ki 0)] [1,3,4] (.bl 0 (.seq (js [jm 8 4,jf 9 0 1,jk 10 9,jq 11 (.len false 10),jb 12 .mul .i (ki 2) 11,jb 13 .lss .i 8 12] [1,3,4,13] (.cond 13 .skip (.exit 0))) (.seq (.block 1 (js [jf 16 0 1,jk 17 16,jm 18 4,jb 19 .quo .i 18 (ki 2),ja 20 6 17 19,jf 21 0 20,jk 22 21,jm 5 22] [1,3,4,5] (.seq (js [jm 23 4,jb 24 .rem .i 23 (ki 2),jb 25 .eql .i 24 (ki 1)] [1,3,4,5,25] (.cond 25 (.reg none [jf 26 0 1,jk 27 26,jm 28 4,jb 29 .quo .i 28 (ki 2),ja 30 6 27 29,jf 31 1 30,jk 32 31,jm 5 32] [1,3,4,5]) .skip)) (js [jm 6 (ki 0)] [1,3,4,5,6] (.seq (.bl 2 (.seq (js [jm 33 6,jm 34 3,jq 35 (.len false 34),jb 36 .lss .i 33 35,jm 37 36,ju 38 37 (.mv 3),ju 39 37 (.mv 6),ju 40 37 (.ia 1 38 39),ju 41 37 (.ld false 1 40),ju 42 37 (.mv 5),ju 43 37 (.bin .lss .s 41 42),jq 44 (.pick 37 43 kf)] [1,3,4,5,6,44] (.cond 44 .skip (.exit 2))) (.block 3 (.reg none [jm 45 6,jb 46 .add .i 45 (ki 1),jm 6 46] [1,3,4,5,6])))) (js [jm 47 6,jm 48 3,jq 49 (.len false 48),jb 50 .eql .i 47 49,jm 51 50,jv 52 51 (.mv 3),jv 53 51 (.mv 6),jv 54 51 (.ia 1 52 53),jv 55 51 (.ld false 1 54),jv 56 51 (.mv 5),jv 57 51 (.bin .neq .s 55 56),jq 58 (.pick 51 kt 57)] [1,3,4,5,6,58] (.cond 58 (.reg (some [[],[],[],[1,2],[0,1,2,3],[],[5],[0,1,2,3,4,5,6],[],[],[8,9],[0,1,2,3,4,5,6,7,8,9,10],[0,1,2,3,4,5,6,7,8,9,10,11]]) [jq 59 (.bsl 1 []),jm 60 3,jm 61 6,jq 62 (.sl 1 60 none (some 61)),jq 63 (.app 1 16 false 59 62),jm 64 5,jq 65 (.bsl 1 [64]),jq 66 (.app 1 16 true 63 65),jm 67 3,jm 68 6,jq 69 (.sl 1 67 (some 68) none),jq 70 (.app 1 16 false 66 69),jm 3 70] [1,3,4]) .skip))))))) (.reg none [jm 14 4,jb 15 .add .i 14 (ki 1),jm 4 15] [1,3,4]))))) (js [jm 71 3,jm 2 71] [2] .ret)))
def rv58:List RV:=[.t 2]
def cA (g:G) (t:TE) (w1:List ByteArray) (x1:Leg):Nat→Int→Option Int
 |0,v3=>
  some v3
 |n3+1,v3=>
  gt w1 (g.nat v3) fun x4=>
  br (g.slt x4 x1.From)
  (
   cA g t w1 x1 n3 (g.wrap .i64 (g.add v3 1)))
  (
   some v3)
def cC (g:G) (t:TE) (w1:List ByteArray) (x1:Leg):Nat→Int→Option Int
 |0,v2=>
  some v2
 |n2+1,v2=>
  gt w1 (g.nat v2) fun x2=>
  br (g.slt x2 x1.To)
  (
   cC g t w1 x1 n2 (g.wrap .i64 (g.add v2 1)))
  (
   some v2)
def aP (g:G) (t:TE) (a0:Network):Nat→Int→List ByteArray→Option (List ByteArray)
 |0,v1,w1=>
  some w1
 |n1+1,v1,w1=>
  gd (((0:Int)≤(g.wrap .i64 (g.quo v1 2))))<|
  gt a0.Legs (g.nat (g.wrap .i64 (g.quo v1 2))) fun x1=>
  br (g.eq (g.rem v1 2) 1)
  (
   gd (((0:Int)≤(g.wrap .i64 (g.quo v1 2))))<|
   gd (((g.int (g.dlen (t.d_S w1)))≤9223372036854775807))<|
   cl (cC g t w1 x1 (ap 0 (g.int (g.dlen (t.d_S w1)))) 0) fun y1=>
   br (g.eq y1 (g.int (g.dlen (t.d_S w1))))
   (
    lP ([]) fun(l2:List ByteArray)=>
    gd (((0:Int)≤0∧0≤y1∧y1≤(((g.dlen (t.d_S w1)):Nat):Int)))<|
    gd (((g.nat 0)+(g.nsub (g.nat y1) (g.nat 0))≤w1.length))<|
    gd (((l2.length+(List.take (g.nsub (g.nat y1) (g.nat 0)) (List.drop (g.nat 0) w1)).length)*16≤70368744177664))<|
    lP (l2++(List.take (g.nsub (g.nat y1) (g.nat 0)) (List.drop (g.nat 0) w1))) fun(l3:List ByteArray)=>
    lP ([x1.To]) fun(l4:List ByteArray)=>
    gd (((l3.length+l4.length)*16≤70368744177664))<|
    lP (l3++l4) fun(l5:List ByteArray)=>
    gd (((0:Int)≤y1∧y1≤(g.int (g.dlen (t.d_S w1)))∧(g.int (g.dlen (t.d_S w1)))≤(((g.dlen (t.d_S w1)):Nat):Int)))<|
    gd (((g.nat y1)+(g.nsub (g.nat (g.int (g.dlen (t.d_S w1)))) (g.nat y1))≤w1.length))<|
    gd (((l5.length+(List.take (g.nsub (g.nat (g.int (g.dlen (t.d_S w1)))) (g.nat y1)) (List.drop (g.nat y1) w1)).length)*16≤70368744177664))<|
    lP (l5++(List.take (g.nsub (g.nat (g.int (g.dlen (t.d_S w1)))) (g.nat y1)) (List.drop (g.nat y1) w1))) fun(l6:List ByteArray)=>
    aP g t a0 n1 (g.wrap .i64 (g.add v1 1)) l6)
   (
    gd (((0:Int)≤y1∧y1<(((g.dlen (t.d_S w1)):Nat):Int)))<|
    gt w1 (g.nat y1) fun x3=>
    br (g.seq x3 x1.To)
    (
     aP g t a0 n1 (g.wrap .i64 (g.add v1 1)) w1)
    (
     lP ([]) fun(l7:List ByteArray)=>
     gd (((0:Int)≤0∧0≤y1∧y1≤(((g.dlen (t.d_S w1)):Nat):Int)))<|
     gd (((g.nat 0)+(g.nsub (g.nat y1) (g.nat 0))≤w1.length))<|
     gd (((l7.length+(List.take (g.nsub (g.nat y1) (g.nat 0)) (List.drop (g.nat 0) w1)).length)*16≤70368744177664))<|
     lP (l7++(List.take (g.nsub (g.nat y1) (g.nat 0)) (List.drop (g.nat 0) w1))) fun(l8:List ByteArray)=>
     lP ([x1.To]) fun(l9:List ByteArray)=>
     gd (((l8.length+l9.length)*16≤70368744177664))<|
     lP (l8++l9) fun(l10:List ByteArray)=>
     gd (((0:Int)≤y1∧y1≤(g.int (g.dlen (t.d_S w1)))∧(g.int (g.dlen (t.d_S w1)))≤(((g.dlen (t.d_S w1)):Nat):Int)))<|
     gd (((g.nat y1)+(g.nsub (g.nat (g.int (g.dlen (t.d_S w1)))) (g.nat y1))≤w1.length))<|
     gd (((l10.length+(List.take (g.nsub (g.nat (g.int (g.dlen (t.d_S w1)))) (g.nat y1)) (List.drop (g.nat y1) w1)).length)*16≤70368744177664))<|
     lP (l10++(List.take (g.nsub (g.nat (g.int (g.dlen (t.d_S w1)))) (g.nat y1)) (List.drop (g.nat y1) w1))) fun(l11:List ByteArray)=>
     aP g t a0 n1 (g.wrap .i64 (g.add v1 1)) l11)))
  (
   gd (((g.int (g.dlen (t.d_S w1)))≤9223372036854775807))<|
   cl (cA g t w1 x1 (ap 0 (g.int (g.dlen (t.d_S w1)))) 0) fun y2=>
   br (g.eq y2 (g.int (g.dlen (t.d_S w1))))
   (
    lP ([]) fun(l12:List ByteArray)=>
    gd (((0:Int)≤0∧0≤y2∧y2≤(((g.dlen (t.d_S w1)):Nat):Int)))<|
    gd (((g.nat 0)+(g.nsub (g.nat y2) (g.nat 0))≤w1.length))<|
    gd (((l12.length+(List.take (g.nsub (g.nat y2) (g.nat 0)) (List.drop (g.nat 0) w1)).length)*16≤70368744177664))<|
    lP (l12++(List.take (g.nsub (g.nat y2) (g.nat 0)) (List.drop (g.nat 0) w1))) fun(l13:List ByteArray)=>
    lP ([x1.From]) fun(l14:List ByteArray)=>
    gd (((l13.length+l14.length)*16≤70368744177664))<|
    lP (l13++l14) fun(l15:List ByteArray)=>
    gd (((0:Int)≤y2∧y2≤(g.int (g.dlen (t.d_S w1)))∧(g.int (g.dlen (t.d_S w1)))≤(((g.dlen (t.d_S w1)):Nat):Int)))<|
    gd (((g.nat y2)+(g.nsub (g.nat (g.int (g.dlen (t.d_S w1)))) (g.nat y2))≤w1.length))<|
    gd (((l15.length+(List.take (g.nsub (g.nat (g.int (g.dlen (t.d_S w1)))) (g.nat y2)) (List.drop (g.nat y2) w1)).length)*16≤70368744177664))<|
    lP (l15++(List.take (g.nsub (g.nat (g.int (g.dlen (t.d_S w1)))) (g.nat y2)) (List.drop (g.nat y2) w1))) fun(l16:List ByteArray)=>
    aP g t a0 n1 (g.wrap .i64 (g.add v1 1)) l16)
   (
    gd (((0:Int)≤y2∧y2<(((g.dlen (t.d_S w1)):Nat):Int)))<|
    gt w1 (g.nat y2) fun x5=>
    br (g.seq x5 x1.From)
    (
     aP g t a0 n1 (g.wrap .i64 (g.add v1 1)) w1)
    (
     lP ([]) fun(l17:List ByteArray)=>
     gd (((0:Int)≤0∧0≤y2∧y2≤(((g.dlen (t.d_S w1)):Nat):Int)))<|
     gd (((g.nat 0)+(g.nsub (g.nat y2) (g.nat 0))≤w1.length))<|
     gd (((l17.length+(List.take (g.nsub (g.nat y2) (g.nat 0)) (List.drop (g.nat 0) w1)).length)*16≤70368744177664))<|
     lP (l17++(List.take (g.nsub (g.nat y2) (g.nat 0)) (List.drop (g.nat 0) w1))) fun(l18:List ByteArray)=>
     lP ([x1.From]) fun(l19:List ByteArray)=>
     gd (((l18.length+l19.length)*16≤70368744177664))<|
     lP (l18++l19) fun(l20:List ByteArray)=>
     gd (((0:Int)≤y2∧y2≤(g.int (g.dlen (t.d_S w1)))∧(g.int (g.dlen (t.d_S w1)))≤(((g.dlen (t.d_S w1)):Nat):Int)))<|
     gd (((g.nat y2)+(g.nsub (g.nat (g.int (g.dlen (t.d_S w1)))) (g.nat y2))≤w1.length))<|
     gd (((l20.length+(List.take (g.nsub (g.nat (g.int (g.dlen (t.d_S w1)))) (g.nat y2)) (List.drop (g.nat y2) w1)).length)*16≤70368744177664))<|
     lP (l20++(List.take (g.nsub (g.nat (g.int (g.dlen (t.d_S w1)))) (g.nat y2)) (List.drop (g.nat y2) w1))) fun(l21:List ByteArray)=>
     aP g t a0 n1 (g.wrap .i64 (g.add v1 1)) l21)))
def dO (g:G) (t:TE) (a0:Network):Option (List ByteArray):=
 lP ([]) fun(l1:List ByteArray)=>
 gd (((g.wrap .i64 (g.mul 2 (g.llen (t.r_Leg a0.Legs))))≤9223372036854775807))<|
 cl (aP g t a0 (ap 0 (g.wrap .i64 (g.mul 2 (g.llen (t.r_Leg a0.Legs))))) 0 l1) fun y3=>
 some y3
theorem fg {g:G} {t:TE} {a0:Network} {r:List ByteArray} (hg:g=G.real) (ht:t=TE.real) (h:dO g t a0=some r):Fn Tryz.prog 58 [.g (Network.rs t a0)] (.c (.o 1 (t.d_S r))):=by
 obtain⟨X,hX⟩:=aC (.c (.o 1 (t.d_S r)):X);rw[←hX];refine aA (rvs:=rv58) (j:=ir58) Tryz.func58 rfl (by kernel_rfl) (nb rfl) (by kernel_rfl) af ?_;intro g2 F hg2 hF;obtain rfl:g2=g:=hg2.unique.trans hg.symm;clear hg2;obtain⟨wrap,lt,_,eq,_,rem,_,_,_,_,_,_,int,add,_,mul,_,seq,slt,_,_,llen,_,_,dlen⟩:=g2;obtain⟨_,_,_,_,r_Leg,_,r_I64,_,_,_,_,_,_,d_S⟩:=t
 obtain⟨a0_Legs,a0_Off,a0_Change⟩:=a0;unfold dO at h;try dsimp only at h
 cbv;obtain⟨l1,hl1,h⟩:=ah h;try dsimp only at h
 refine ANew.mk (d_S l1) (dlen (d_S l1)) (by rw[←hl1];exact jY hg ht []) (by rw[←hl1];exact iA hg ht []) ?_;cbv;obtain⟨hB1,h⟩:=ak h;obtain⟨o1,ho1,h⟩:=ae h;try dsimp only at h
 try rw[hg] at ho1
 try rw[ht] at ho1
 refine ABL.mk {p:Nat×Int×List ByteArray//p.1=ap p.2.1 (wrap .i64 (mul 2 (llen (r_Leg a0_Legs))))∧0≤p.2.1∧aP G.real TE.real (Network.mk a0_Legs a0_Off a0_Change) p.1 p.2.1 p.2.2=some o1} (fun⟨⟨n1,v1,w1⟩,_⟩=>({sl:=[(1,.c (.p 0 3 0 0)),(3,.c (.f 1 1 0 (dlen (d_S w1)))),(4,.c (.r (.v (.int .i64 v1))))],tab:=[(0,some (.foc 3 [] [.r (.s 6 (r_Leg a0_Legs)),.r (.s 1 (r_I64 a0_Off)),.r (.v (.int .i64 a0_Change))] [])),(1,some (.arr 1 (d_S w1)))]}:St)) 2 (fun p=>p.1.1) ⟨(ap 0 (wrap .i64 (mul 2 (llen (r_Leg a0_Legs)))),0,l1),rfl,Int.le_refl _,ho1⟩ (List ByteArray) (fun y3=>({sl:=[(3,.c (.f 0 1 0 (dlen (d_S y3))))],tab:=[(0,some (.arr 1 (d_S y3)))]}:St)) 1 (fun y=>o1=y) ?_ ?_ ?_
 ·refine Wk.of [(0,some 0),(1,some 32)] rfl rfl ?_ ?_
  ·cbv;all_goals exact⟨⟨_,rfl,rfl⟩,⟨_,rfl,rfl⟩,⟨_,rfl,rfl⟩,trivial⟩
  cbv;all_goals exact⟨⟨_,rfl,_,rfl,rfl,rfl,rfl,trivial⟩,⟨_,rfl,rfl⟩,trivial⟩
 ·rintro⟨⟨n1,v1,w1⟩,hn1,hi1,h_1⟩ hq1;try dsimp only at hn1 hi1 h_1
  clear hq1;cbv;rcases n1 with _|n1
  ·have hb1:lt v1 (wrap .i64 (mul 2 (llen (r_Leg a0_Legs))))=false:=ba hg hn1;rw[aP] at h_1;try rw[←hg] at h_1
   try rw[←ht] at h_1
   try dsimp only at h_1
   rw[hb1];cbv;refine⟨w1,Wk.of [(0,some 1)] rfl rfl ?_ ?_,(Option.some.inj h_1).symm⟩
   ·cbv;all_goals exact⟨⟨_,rfl,rfl⟩,trivial⟩
   cbv;all_goals exact⟨⟨_,rfl,rfl⟩,trivial⟩
  have hb1:lt v1 (wrap .i64 (mul 2 (llen (r_Leg a0_Legs))))=true:=bt hg hn1;have hl1:=cR hn1;have hs1:=bS hg hn1 hi1 hB1 (by decide);rw[aP] at h_1;try rw[←hg] at h_1
  try rw[←ht] at h_1
  try dsimp only at h_1
  rw[hb1];cbv;refine AStep.mk (by decide) ?_;cbv;obtain⟨hc1,h_1⟩:=ak h_1;refine AStep.mk hc1 ?_;cbv;obtain⟨x1,hx1,h_1⟩:=aE h_1;obtain⟨x1_From,x1_To,x1_Start,x1_Takes,x1_Days,x1_Room⟩:=x1;try dsimp only at h_1
  refine AGet.mk _ (bk hg ht hx1) ?_;cbv;refine AStep.mk (by decide) ?_;cbv
  cases hb2:(eq (rem v1 2) 1)
  ·rw[aa hb2] at h_1;cbv;obtain⟨hB3,h_1⟩:=ak h_1;obtain⟨o3,ho3,h_1⟩:=ae h_1;try dsimp only at h_1
   try rw[hg] at ho3
   try rw[ht] at ho3
   refine ABL.mk {p:Nat×Int//p.1=ap p.2 (int (dlen (d_S w1)))∧0≤p.2∧cA G.real TE.real w1 (Leg.mk x1_From x1_To x1_Start x1_Takes x1_Days x1_Room) p.1 p.2=some o3} (fun⟨⟨n3,v3⟩,_⟩=>({sl:=[(1,.c (.p 0 3 0 0)),(3,.c (.f 1 1 0 (dlen (d_S w1)))),(4,.c (.r (.v (.int .i64 v1)))),(5,.c (.r (.v (.string x1_From)))),(6,.c (.r (.v (.int .i64 v3))))],tab:=[(0,some (.foc 3 [] [.r (.s 6 (r_Leg a0_Legs)),.r (.s 1 (r_I64 a0_Off)),.r (.v (.int .i64 a0_Change))] [])),(1,some (.arr 1 (d_S w1)))]}:St)) 2 (fun p=>p.1.1) ⟨(ap 0 (int (dlen (d_S w1))),0),rfl,Int.le_refl _,ho3⟩ (Int) (fun y2=>({sl:=[(1,.c (.p 0 3 0 0)),(3,.c (.f 1 1 0 (dlen (d_S w1)))),(4,.c (.r (.v (.int .i64 v1)))),(5,.c (.r (.v (.string x1_From)))),(6,.c (.r (.v (.int .i64 y2))))],tab:=[(0,some (.foc 3 [] [.r (.s 6 (r_Leg a0_Legs)),.r (.s 1 (r_I64 a0_Off)),.r (.v (.int .i64 a0_Change))] [])),(1,some (.arr 1 (d_S w1)))]}:St)) 2 (fun y=>o3=y) ?_ ?_ ?_
   ·refine Wk.of [(0,some 0),(1,some 1)] rfl rfl ?_ ?_
    ·cbv;all_goals exact⟨⟨_,rfl,rfl⟩,⟨_,rfl,rfl⟩,⟨_,rfl,rfl⟩,⟨_,rfl,rfl⟩,⟨_,rfl,rfl⟩,trivial⟩
    cbv;all_goals exact⟨⟨_,rfl,_,rfl,rfl,rfl,rfl,trivial⟩,⟨_,rfl,rfl⟩,trivial⟩
   ·rintro⟨⟨n3,v3⟩,hn3,hi3,h_3⟩ hq3;try dsimp only at hn3 hi3 h_3
    clear hq3;cbv;rcases n3 with _|n3
    ·have hb7:lt v3 (int (dlen (d_S w1)))=false:=ba hg hn3;rw[cA] at h_3;try rw[←hg] at h_3
     try rw[←ht] at h_3
     try dsimp only at h_3
     rw[hb7];cbv;iterate 6 try(rw[hb7];cbv)
     refine⟨v3,Wk.of [(0,some 0),(1,some 1)] rfl rfl ?_ ?_,(Option.some.inj h_3).symm⟩
     ·cbv;all_goals exact⟨⟨_,rfl,rfl⟩,⟨_,rfl,rfl⟩,⟨_,rfl,rfl⟩,⟨_,rfl,rfl⟩,⟨_,rfl,rfl⟩,trivial⟩
     cbv;all_goals exact⟨⟨_,rfl,_,rfl,rfl,rfl,rfl,trivial⟩,⟨_,rfl,rfl⟩,trivial⟩
    have hb7:lt v3 (int (dlen (d_S w1)))=true:=bt hg hn3;have hl3:=cR hn3;have hs3:=bS hg hn3 hi3 hB3 (by decide);rw[cA] at h_3;try rw[←hg] at h_3
    try rw[←ht] at h_3
    try dsimp only at h_3
    rw[hb7];cbv;iterate 2 try(rw[hb7];cbv)
    refine AStep.mk (di hg hi3 hl3) ?_;cbv;try(rw[hb7];cbv)
    obtain⟨x4,hx4,h_3⟩:=aE h_3;try dsimp only at h_3
    refine AGet.mk _ (ma hg ht hx4) ?_;cbv;iterate 3 try(rw[hb7];cbv)
    cases hb8:(slt x4 x1_From)
    ·rw[aa hb8] at h_3;cbv;refine⟨v3,Wk.of [(0,some 0),(1,some 1)] rfl rfl ?_ ?_,(Option.some.inj h_3).symm⟩
     ·cbv;all_goals exact⟨⟨_,rfl,rfl⟩,⟨_,rfl,rfl⟩,⟨_,rfl,rfl⟩,⟨_,rfl,rfl⟩,⟨_,rfl,rfl⟩,trivial⟩
     cbv;all_goals exact⟨⟨_,rfl,_,rfl,rfl,rfl,rfl,trivial⟩,⟨_,rfl,rfl⟩,trivial⟩
    rw[ab hb8] at h_3;cbv;try rw[hg] at h_3
    try rw[ht] at h_3
    refine⟨⟨(n3,(wrap .i64 (add v3 1))),hs3.1,hs3.2,h_3⟩,Wk.of [(0,some 0),(1,some 1)] rfl rfl ?_ ?_,Nat.lt_succ_self _⟩
    ·cbv;all_goals exact⟨⟨_,rfl,rfl⟩,⟨_,rfl,rfl⟩,⟨_,rfl,rfl⟩,⟨_,rfl,rfl⟩,⟨_,rfl,rfl⟩,trivial⟩
    cbv;all_goals exact⟨⟨_,rfl,_,rfl,rfl,rfl,rfl,trivial⟩,⟨_,rfl,rfl⟩,trivial⟩
   rintro y2 hy3;replace hy3:=hy3.symm;subst hy3;try dsimp only[lr,lrL,lrp,aZ] at h_1
   cbv
   cases hb9:(eq y2 (int (dlen (d_S w1))))
   rotate_left
   ·rw[ab hb9] at h_1;cbv;iterate 6 try(rw[hb9];cbv)
    obtain⟨l12,hl12,h_1⟩:=ah h_1;try dsimp only at h_1
    refine ANew.mk (d_S l12) (dlen (d_S l12)) (by rw[←hl12];exact jY hg ht []) (by rw[←hl12];exact iA hg ht []) ?_;cbv;obtain⟨hc18,h_1⟩:=ak h_1;refine AStep.mk hc18 ?_;cbv;obtain⟨hc23,h_1⟩:=ak h_1;obtain⟨hc24,h_1⟩:=ak h_1;refine AStep.mk ⟨(fU hg ht hc23),(d9 hg ht (ar hg ht _) (cQ hg ht _ _ _) hc24)⟩ ?_;cbv;obtain⟨l13,hl13,h_1⟩:=ah h_1;try dsimp only at h_1
    refine ANew.mk (d_S l13) (dlen (d_S l13)) (by rw[←hl13];exact jX hg ht (ar hg ht _) (cQ hg ht _ _ _)) (by rw[←hl13];exact gL hg ht (ar hg ht _) (cQ hg ht _ _ _)) ?_;cbv;obtain⟨l14,hl14,h_1⟩:=ah h_1;try dsimp only at h_1
    refine ANew.mk (d_S l14) (dlen (d_S l14)) (by rw[←hl14];exact jY hg ht [x1_From]) (by rw[←hl14];exact iA hg ht [x1_From]) ?_;cbv;obtain⟨hc22,h_1⟩:=ak h_1;refine AStep.mk ⟨⟨rfl,(ar hg ht _)⟩,(d9 hg ht (ar hg ht _) rfl hc22)⟩ ?_;cbv;obtain⟨l15,hl15,h_1⟩:=ah h_1;try dsimp only at h_1
    refine ANew.mk (d_S l15) (dlen (d_S l15)) (by rw[←hl15];exact jX hg ht (ar hg ht _) rfl) (by rw[←hl15];exact gL hg ht (ar hg ht _) rfl) ?_;cbv;obtain⟨hc19,h_1⟩:=ak h_1;refine AStep.mk hc19 ?_;cbv;obtain⟨hc20,h_1⟩:=ak h_1;obtain⟨hc21,h_1⟩:=ak h_1;refine AStep.mk ⟨(fU hg ht hc20),(d9 hg ht (ar hg ht _) (cQ hg ht _ _ _) hc21)⟩ ?_;cbv;obtain⟨l16,hl16,h_1⟩:=ah h_1;try dsimp only at h_1
    refine ANew.mk (d_S l16) (dlen (d_S l16)) (by rw[←hl16];exact jX hg ht (ar hg ht _) (cQ hg ht _ _ _)) (by rw[←hl16];exact gL hg ht (ar hg ht _) (cQ hg ht _ _ _)) ?_;cbv;try rw[hg] at h_1
    try rw[ht] at h_1
    refine⟨⟨(n1,(wrap .i64 (add v1 1)),l16),hs1.1,hs1.2,h_1⟩,Wk.of [(0,some 0),(1,some 370)] rfl rfl ?_ ?_,Nat.lt_succ_self _⟩
    ·cbv;all_goals exact⟨⟨_,rfl,rfl⟩,⟨_,rfl,rfl⟩,⟨_,rfl,rfl⟩,trivial⟩
    cbv;all_goals exact⟨⟨_,rfl,_,rfl,rfl,rfl,rfl,trivial⟩,⟨_,rfl,rfl⟩,trivial⟩
   rw[aa hb9] at h_1;cbv;iterate 2 try(rw[hb9];cbv)
   obtain⟨hc25,h_1⟩:=ak h_1;refine AStep.mk hc25 ?_;cbv;try(rw[hb9];cbv)
   obtain⟨x5,hx5,h_1⟩:=aE h_1;try dsimp only at h_1
   refine AGet.mk _ (ma hg ht hx5) ?_;cbv;iterate 3 try(rw[hb9];cbv)
   cases hb10:(seq x5 x1_From)
   rotate_left
   ·rw[ab hb10] at h_1;cbv;try rw[hg] at h_1
    try rw[ht] at h_1
    refine⟨⟨(n1,(wrap .i64 (add v1 1)),w1),hs1.1,hs1.2,h_1⟩,Wk.of [(0,some 0),(1,some 1)] rfl rfl ?_ ?_,Nat.lt_succ_self _⟩
    ·cbv;all_goals exact⟨⟨_,rfl,rfl⟩,⟨_,rfl,rfl⟩,⟨_,rfl,rfl⟩,trivial⟩
    cbv;all_goals exact⟨⟨_,rfl,_,rfl,rfl,rfl,rfl,trivial⟩,⟨_,rfl,rfl⟩,trivial⟩
   rw[aa hb10] at h_1;cbv;obtain⟨l17,hl17,h_1⟩:=ah h_1;try dsimp only at h_1
   refine ANew.mk (d_S l17) (dlen (d_S l17)) (by rw[←hl17];exact jY hg ht []) (by rw[←hl17];exact iA hg ht []) ?_;cbv;obtain⟨hc26,h_1⟩:=ak h_1;refine AStep.mk hc26 ?_;cbv;obtain⟨hc31,h_1⟩:=ak h_1;obtain⟨hc32,h_1⟩:=ak h_1;refine AStep.mk ⟨(fU hg ht hc31),(d9 hg ht (ar hg ht _) (cQ hg ht _ _ _) hc32)⟩ ?_;cbv;obtain⟨l18,hl18,h_1⟩:=ah h_1;try dsimp only at h_1
   refine ANew.mk (d_S l18) (dlen (d_S l18)) (by rw[←hl18];exact jX hg ht (ar hg ht _) (cQ hg ht _ _ _)) (by rw[←hl18];exact gL hg ht (ar hg ht _) (cQ hg ht _ _ _)) ?_;cbv;obtain⟨l19,hl19,h_1⟩:=ah h_1;try dsimp only at h_1
   refine ANew.mk (d_S l19) (dlen (d_S l19)) (by rw[←hl19];exact jY hg ht [x1_From]) (by rw[←hl19];exact iA hg ht [x1_From]) ?_;cbv;obtain⟨hc30,h_1⟩:=ak h_1;refine AStep.mk ⟨⟨rfl,(ar hg ht _)⟩,(d9 hg ht (ar hg ht _) rfl hc30)⟩ ?_;cbv;obtain⟨l20,hl20,h_1⟩:=ah h_1;try dsimp only at h_1
   refine ANew.mk (d_S l20) (dlen (d_S l20)) (by rw[←hl20];exact jX hg ht (ar hg ht _) rfl) (by rw[←hl20];exact gL hg ht (ar hg ht _) rfl) ?_;cbv;obtain⟨hc27,h_1⟩:=ak h_1;refine AStep.mk hc27 ?_;cbv;obtain⟨hc28,h_1⟩:=ak h_1;obtain⟨hc29,h_1⟩:=ak h_1;refine AStep.mk ⟨(fU hg ht hc28),(d9 hg ht (ar hg ht _) (cQ hg ht _ _ _) hc29)⟩ ?_;cbv;obtain⟨l21,hl21,h_1⟩:=ah h_1;try dsimp only at h_1
   refine ANew.mk (d_S l21) (dlen (d_S l21)) (by rw[←hl21];exact jX hg ht (ar hg ht _) (cQ hg ht _ _ _)) (by rw[←hl21];exact gL hg ht (ar hg ht _) (cQ hg ht _ _ _)) ?_;cbv;try rw[hg] at h_1
   try rw[ht] at h_1
   refine⟨⟨(n1,(wrap .i64 (add v1 1)),l21),hs1.1,hs1.2,h_1⟩,Wk.of [(0,some 0),(1,some 370)] rfl rfl ?_ ?_,Nat.lt_succ_self _⟩
   ·cbv;all_goals exact⟨⟨_,rfl,rfl⟩,⟨_,rfl,rfl⟩,⟨_,rfl,rfl⟩,trivial⟩
   cbv;all_goals exact⟨⟨_,rfl,_,rfl,rfl,rfl,rfl,trivial⟩,⟨_,rfl,rfl⟩,trivial⟩
  rw[ab hb2] at h_1;cbv;refine AStep.mk (by decide) ?_;cbv;obtain⟨hc2,h_1⟩:=ak h_1;refine AStep.mk hc2 ?_;cbv;refine AGet.mk _ (bk hg ht hx1) ?_;cbv;obtain⟨hB2,h_1⟩:=ak h_1;obtain⟨o2,ho2,h_1⟩:=ae h_1;try dsimp only at h_1
  try rw[hg] at ho2
  try rw[ht] at ho2
  refine ABL.mk {p:Nat×Int//p.1=ap p.2 (int (dlen (d_S w1)))∧0≤p.2∧cC G.real TE.real w1 (Leg.mk x1_From x1_To x1_Start x1_Takes x1_Days x1_Room) p.1 p.2=some o2} (fun⟨⟨n2,v2⟩,_⟩=>({sl:=[(1,.c (.p 0 3 0 0)),(3,.c (.f 1 1 0 (dlen (d_S w1)))),(4,.c (.r (.v (.int .i64 v1)))),(5,.c (.r (.v (.string x1_To)))),(6,.c (.r (.v (.int .i64 v2))))],tab:=[(0,some (.foc 3 [] [.r (.s 6 (r_Leg a0_Legs)),.r (.s 1 (r_I64 a0_Off)),.r (.v (.int .i64 a0_Change))] [])),(1,some (.arr 1 (d_S w1)))]}:St)) 2 (fun p=>p.1.1) ⟨(ap 0 (int (dlen (d_S w1))),0),rfl,Int.le_refl _,ho2⟩ (Int) (fun y1=>({sl:=[(1,.c (.p 0 3 0 0)),(3,.c (.f 1 1 0 (dlen (d_S w1)))),(4,.c (.r (.v (.int .i64 v1)))),(5,.c (.r (.v (.string x1_To)))),(6,.c (.r (.v (.int .i64 y1))))],tab:=[(0,some (.foc 3 [] [.r (.s 6 (r_Leg a0_Legs)),.r (.s 1 (r_I64 a0_Off)),.r (.v (.int .i64 a0_Change))] [])),(1,some (.arr 1 (d_S w1)))]}:St)) 2 (fun y=>o2=y) ?_ ?_ ?_
  ·refine Wk.of [(0,some 0),(1,some 1)] rfl rfl ?_ ?_
   ·cbv;all_goals exact⟨⟨_,rfl,rfl⟩,⟨_,rfl,rfl⟩,⟨_,rfl,rfl⟩,⟨_,rfl,rfl⟩,⟨_,rfl,rfl⟩,trivial⟩
   cbv;all_goals exact⟨⟨_,rfl,_,rfl,rfl,rfl,rfl,trivial⟩,⟨_,rfl,rfl⟩,trivial⟩
  ·rintro⟨⟨n2,v2⟩,hn2,hi2,h_2⟩ hq2;try dsimp only at hn2 hi2 h_2
   clear hq2;cbv;rcases n2 with _|n2
   ·have hb3:lt v2 (int (dlen (d_S w1)))=false:=ba hg hn2;rw[cC] at h_2;try rw[←hg] at h_2
    try rw[←ht] at h_2
    try dsimp only at h_2
    rw[hb3];cbv;iterate 6 try(rw[hb3];cbv)
    refine⟨v2,Wk.of [(0,some 0),(1,some 1)] rfl rfl ?_ ?_,(Option.some.inj h_2).symm⟩
    ·cbv;all_goals exact⟨⟨_,rfl,rfl⟩,⟨_,rfl,rfl⟩,⟨_,rfl,rfl⟩,⟨_,rfl,rfl⟩,⟨_,rfl,rfl⟩,trivial⟩
    cbv;all_goals exact⟨⟨_,rfl,_,rfl,rfl,rfl,rfl,trivial⟩,⟨_,rfl,rfl⟩,trivial⟩
   have hb3:lt v2 (int (dlen (d_S w1)))=true:=bt hg hn2;have hl2:=cR hn2;have hs2:=bS hg hn2 hi2 hB2 (by decide);rw[cC] at h_2;try rw[←hg] at h_2
   try rw[←ht] at h_2
   try dsimp only at h_2
   rw[hb3];cbv;iterate 2 try(rw[hb3];cbv)
   refine AStep.mk (di hg hi2 hl2) ?_;cbv;try(rw[hb3];cbv)
   obtain⟨x2,hx2,h_2⟩:=aE h_2;try dsimp only at h_2
   refine AGet.mk _ (ma hg ht hx2) ?_;cbv;iterate 3 try(rw[hb3];cbv)
   cases hb4:(slt x2 x1_To)
   ·rw[aa hb4] at h_2;cbv;refine⟨v2,Wk.of [(0,some 0),(1,some 1)] rfl rfl ?_ ?_,(Option.some.inj h_2).symm⟩
    ·cbv;all_goals exact⟨⟨_,rfl,rfl⟩,⟨_,rfl,rfl⟩,⟨_,rfl,rfl⟩,⟨_,rfl,rfl⟩,⟨_,rfl,rfl⟩,trivial⟩
    cbv;all_goals exact⟨⟨_,rfl,_,rfl,rfl,rfl,rfl,trivial⟩,⟨_,rfl,rfl⟩,trivial⟩
   rw[ab hb4] at h_2;cbv;try rw[hg] at h_2
   try rw[ht] at h_2
   refine⟨⟨(n2,(wrap .i64 (add v2 1))),hs2.1,hs2.2,h_2⟩,Wk.of [(0,some 0),(1,some 1)] rfl rfl ?_ ?_,Nat.lt_succ_self _⟩
   ·cbv;all_goals exact⟨⟨_,rfl,rfl⟩,⟨_,rfl,rfl⟩,⟨_,rfl,rfl⟩,⟨_,rfl,rfl⟩,⟨_,rfl,rfl⟩,trivial⟩
   cbv;all_goals exact⟨⟨_,rfl,_,rfl,rfl,rfl,rfl,trivial⟩,⟨_,rfl,rfl⟩,trivial⟩
  rintro y1 hy2;replace hy2:=hy2.symm;subst hy2;try dsimp only[lr,lrL,lrp,aZ] at h_1
  cbv
  cases hb5:(eq y1 (int (dlen (d_S w1))))
  rotate_left
  ·rw[ab hb5] at h_1;cbv;iterate 6 try(rw[hb5];cbv)
   obtain⟨l2,hl2,h_1⟩:=ah h_1;try dsimp only at h_1
   refine ANew.mk (d_S l2) (dlen (d_S l2)) (by rw[←hl2];exact jY hg ht []) (by rw[←hl2];exact iA hg ht []) ?_;cbv;obtain⟨hc3,h_1⟩:=ak h_1;refine AStep.mk hc3 ?_;cbv;obtain⟨hc8,h_1⟩:=ak h_1;obtain⟨hc9,h_1⟩:=ak h_1;refine AStep.mk ⟨(fU hg ht hc8),(d9 hg ht (ar hg ht _) (cQ hg ht _ _ _) hc9)⟩ ?_;cbv;obtain⟨l3,hl3,h_1⟩:=ah h_1;try dsimp only at h_1
   refine ANew.mk (d_S l3) (dlen (d_S l3)) (by rw[←hl3];exact jX hg ht (ar hg ht _) (cQ hg ht _ _ _)) (by rw[←hl3];exact gL hg ht (ar hg ht _) (cQ hg ht _ _ _)) ?_;cbv;obtain⟨l4,hl4,h_1⟩:=ah h_1;try dsimp only at h_1
   refine ANew.mk (d_S l4) (dlen (d_S l4)) (by rw[←hl4];exact jY hg ht [x1_To]) (by rw[←hl4];exact iA hg ht [x1_To]) ?_;cbv;obtain⟨hc7,h_1⟩:=ak h_1;refine AStep.mk ⟨⟨rfl,(ar hg ht _)⟩,(d9 hg ht (ar hg ht _) rfl hc7)⟩ ?_;cbv;obtain⟨l5,hl5,h_1⟩:=ah h_1;try dsimp only at h_1
   refine ANew.mk (d_S l5) (dlen (d_S l5)) (by rw[←hl5];exact jX hg ht (ar hg ht _) rfl) (by rw[←hl5];exact gL hg ht (ar hg ht _) rfl) ?_;cbv;obtain⟨hc4,h_1⟩:=ak h_1;refine AStep.mk hc4 ?_;cbv;obtain⟨hc5,h_1⟩:=ak h_1;obtain⟨hc6,h_1⟩:=ak h_1;refine AStep.mk ⟨(fU hg ht hc5),(d9 hg ht (ar hg ht _) (cQ hg ht _ _ _) hc6)⟩ ?_;cbv;obtain⟨l6,hl6,h_1⟩:=ah h_1;try dsimp only at h_1
   refine ANew.mk (d_S l6) (dlen (d_S l6)) (by rw[←hl6];exact jX hg ht (ar hg ht _) (cQ hg ht _ _ _)) (by rw[←hl6];exact gL hg ht (ar hg ht _) (cQ hg ht _ _ _)) ?_;cbv;try rw[hg] at h_1
   try rw[ht] at h_1
   refine⟨⟨(n1,(wrap .i64 (add v1 1)),l6),hs1.1,hs1.2,h_1⟩,Wk.of [(0,some 0),(1,some 370)] rfl rfl ?_ ?_,Nat.lt_succ_self _⟩
   ·cbv;all_goals exact⟨⟨_,rfl,rfl⟩,⟨_,rfl,rfl⟩,⟨_,rfl,rfl⟩,trivial⟩
   cbv;all_goals exact⟨⟨_,rfl,_,rfl,rfl,rfl,rfl,trivial⟩,⟨_,rfl,rfl⟩,trivial⟩
  rw[aa hb5] at h_1;cbv;iterate 2 try(rw[hb5];cbv)
  obtain⟨hc10,h_1⟩:=ak h_1;refine AStep.mk hc10 ?_;cbv;try(rw[hb5];cbv)
  obtain⟨x3,hx3,h_1⟩:=aE h_1;try dsimp only at h_1
  refine AGet.mk _ (ma hg ht hx3) ?_;cbv;iterate 3 try(rw[hb5];cbv)
  cases hb6:(seq x3 x1_To)
  rotate_left
  ·rw[ab hb6] at h_1;cbv;try rw[hg] at h_1
   try rw[ht] at h_1
   refine⟨⟨(n1,(wrap .i64 (add v1 1)),w1),hs1.1,hs1.2,h_1⟩,Wk.of [(0,some 0),(1,some 1)] rfl rfl ?_ ?_,Nat.lt_succ_self _⟩
   ·cbv;all_goals exact⟨⟨_,rfl,rfl⟩,⟨_,rfl,rfl⟩,⟨_,rfl,rfl⟩,trivial⟩
   cbv;all_goals exact⟨⟨_,rfl,_,rfl,rfl,rfl,rfl,trivial⟩,⟨_,rfl,rfl⟩,trivial⟩
  rw[aa hb6] at h_1;cbv;obtain⟨l7,hl7,h_1⟩:=ah h_1;try dsimp only at h_1
  refine ANew.mk (d_S l7) (dlen (d_S l7)) (by rw[←hl7];exact jY hg ht []) (by rw[←hl7];exact iA hg ht []) ?_;cbv;obtain⟨hc11,h_1⟩:=ak h_1;refine AStep.mk hc11 ?_;cbv;obtain⟨hc16,h_1⟩:=ak h_1;obtain⟨hc17,h_1⟩:=ak h_1;refine AStep.mk ⟨(fU hg ht hc16),(d9 hg ht (ar hg ht _) (cQ hg ht _ _ _) hc17)⟩ ?_;cbv;obtain⟨l8,hl8,h_1⟩:=ah h_1;try dsimp only at h_1
  refine ANew.mk (d_S l8) (dlen (d_S l8)) (by rw[←hl8];exact jX hg ht (ar hg ht _) (cQ hg ht _ _ _)) (by rw[←hl8];exact gL hg ht (ar hg ht _) (cQ hg ht _ _ _)) ?_;cbv;obtain⟨l9,hl9,h_1⟩:=ah h_1;try dsimp only at h_1
  refine ANew.mk (d_S l9) (dlen (d_S l9)) (by rw[←hl9];exact jY hg ht [x1_To]) (by rw[←hl9];exact iA hg ht [x1_To]) ?_;cbv;obtain⟨hc15,h_1⟩:=ak h_1;refine AStep.mk ⟨⟨rfl,(ar hg ht _)⟩,(d9 hg ht (ar hg ht _) rfl hc15)⟩ ?_;cbv;obtain⟨l10,hl10,h_1⟩:=ah h_1;try dsimp only at h_1
  refine ANew.mk (d_S l10) (dlen (d_S l10)) (by rw[←hl10];exact jX hg ht (ar hg ht _) rfl) (by rw[←hl10];exact gL hg ht (ar hg ht _) rfl) ?_;cbv;obtain⟨hc12,h_1⟩:=ak h_1;refine AStep.mk hc12 ?_;cbv;obtain⟨hc13,h_1⟩:=ak h_1;obtain⟨hc14,h_1⟩:=ak h_1;refine AStep.mk ⟨(fU hg ht hc13),(d9 hg ht (ar hg ht _) (cQ hg ht _ _ _) hc14)⟩ ?_;cbv;obtain⟨l11,hl11,h_1⟩:=ah h_1;try dsimp only at h_1
  refine ANew.mk (d_S l11) (dlen (d_S l11)) (by rw[←hl11];exact jX hg ht (ar hg ht _) (cQ hg ht _ _ _)) (by rw[←hl11];exact gL hg ht (ar hg ht _) (cQ hg ht _ _ _)) ?_;cbv;try rw[hg] at h_1
  try rw[ht] at h_1
  refine⟨⟨(n1,(wrap .i64 (add v1 1)),l11),hs1.1,hs1.2,h_1⟩,Wk.of [(0,some 0),(1,some 370)] rfl rfl ?_ ?_,Nat.lt_succ_self _⟩
  ·cbv;all_goals exact⟨⟨_,rfl,rfl⟩,⟨_,rfl,rfl⟩,⟨_,rfl,rfl⟩,trivial⟩
  cbv;all_goals exact⟨⟨_,rfl,_,rfl,rfl,rfl,rfl,trivial⟩,⟨_,rfl,rfl⟩,trivial⟩
 rintro y3 hy1;replace hy1:=hy1.symm;subst hy1;try dsimp only[lr,lrL,lrp,aZ] at h
 cbv;obtain rfl:=Option.some.inj h;exact ARet.mk ⟨rfl,(ar hg ht _)⟩ hX.symm
end Go.Vs
