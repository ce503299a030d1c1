/- Part of the proofs of this seat's laws: Lac. No condition. -/
import Derived.Test.YticpmdigfdpmfaaGreatTy
import Derived.Test.YticpmdigfdpmfaaGreatTIRall
import Derived.Test.YticpmdigfdpmfaaGreatLaa
import Derived.Test.YticpmdigfdpmfaaGreatLab
import Derived.Test.YticpmdigfdpmfaaGreatVf
import Derived.Test.YticpmdigfdpmfaaGreatVg
import Derived.Sort.Walk0
import Derived.Test.YticpmdigfdpmfaaGreatProg
import Derived.Lib.Strings
import Derived.Lib.Slices
import Derived.Lib.Walk
import Derived.Lib.Bytealg
import Derived.Test.YticpmdigfdpmfaaGreatVh
import Derived.Shelf.Lay
import Derived.KernelRfl
set_option linter.unusedVariables false
set_option linter.unusedSimpArgs false
set_option linter.unusedSectionVars false
namespace Go.Vs
set_option maxRecDepth 100000
def ir60:J:=js [jq 4 (.box 0),jq 8 (.mv (.k (.c (.n 1))))] [1,2,3,4] (js [jl 13 3 4,jc 14 58 [13],jm 9 14] [1,2,3,4,9] (js [jm 15 9,jm 16 1,jc 17 59 [15,16],jm 10 17] [2,3,4,9,10] (.seq (js [jl 18 3 4,jc 19 113 [18],jq 20 (.not 19),jm 21 20,jv 22 21 (.mv 10),jv 23 21 (.bin .lss .i 22 (ki 0)),jq 24 (.pick 21 kt 23),jm 25 24,jv 26 25 (.mv 2),jv 27 25 (.bin .gtr .i 26 (ki 100000)),jq 28 (.pick 25 kt 27),jm 29 28,jv 30 29 (.mv 3),jv 31 29 (.bin .lss .i 30 (ki 0)),jq 32 (.pick 29 kt 31)] [2,3,4,9,10,32] (.cond 32 (js [jq 33 (.bsl 1 []),jm 8 33] [8] .ret) .skip)) (js [jm 34 9,jm 35 10,jm 36 2,jc 37 114 [34,35,36],jm 11 37] [3,4,9,10,11] (.seq (js [jm 12 (ki 0)] [3,4,9,10,11,12] (.bl 0 (.seq (js [jm 38 12,jm 39 3,jb 40 .lss .i 38 39,jm 41 40,ju 42 41 (.mv 12),ju 43 41 (.mv 9),ju 44 41 (.len false 43),ju 45 41 (.bin .lss .i 42 44),jq 46 (.pick 41 45 kf)] [3,4,9,10,11,12,46] (.cond 46 .skip (.exit 0))) (.seq (.block 1 (.reg none [jl 49 3 4,jm 50 9,jm 51 11,jm 52 10,jc 53 115 [49,50,51,52],jm 11 53] [3,4,9,10,11,12])) (.reg none [jm 47 12,jb 48 .add .i 47 (ki 1),jm 12 48] [3,4,9,10,11,12]))))) (js [jm 54 11,jm 8 54] [8] .ret))))))
def rv60:List RV:=[.t 8]
open Go.Proofs Go.IntWalk
set_option linter.unusedVariables false
set_option maxHeartbeats 4000000
def bq (g:G) (t:TE) (a0:Network) (x1:List ByteArray) (x2:Int):Nat→Int→List Int→Option (List Int)
 |0,v1,w1=>
  some w1
 |n1+1,v1,w1=>
  br (g.lt v1 (g.int (g.dlen (t.d_S x1))))
  (
   cl (lR g t a0 x1 w1 x2) fun x5=>
   bq g t a0 x1 x2 n1 (g.wrap .i64 (g.add v1 1)) x5)
  (
   some w1)
def aW (g:G) (t:TE) (a0:Network) (a1:ByteArray) (a2:Int) (a3:Int):Option (List Int):=
 cl (eM g t a0) fun x1=>
 lP (df g t x1 a1) fun x2=>
 cl (dW g t a0) fun x3=>
 br x3
 (
  br (g.lt x2 0)
  (
   lP ([]) fun(l1:List Int)=>
   some l1)
  (
   br (g.lt 100000 a2)
   (
    lP ([]) fun(l2:List Int)=>
    some l2)
   (
    br (g.lt a3 0)
    (
     lP ([]) fun(l3:List Int)=>
     some l3)
    (
     cl (jX g t x1 x2 a2) fun x4=>
     gd ((a3≤9223372036854775807))<|
     cl (bq g t a0 x1 x2 (aA 0 a3) 0 x4) fun y1=>
     some y1))))
 (
  lP ([]) fun(l4:List Int)=>
  some l4)
theorem gv {g:G} {t:TE} {a0:Network} {a1:ByteArray} {a2:Int} {a3:Int} {r:List Int} (hg:g=G.real) (ht:t=TE.real) (h:aW g t a0 a1 a2 a3=some r):Fn Tryz.prog 60 [.g (Network.rs t a0),.c (.v (.string a1)),.c (.v (.int .i64 a2)),.c (.v (.int .i64 a3))] (.c (.o 1 (t.d_I64 r))):=by
 obtain⟨X,hX⟩:=aC (.c (.o 1 (t.d_I64 r)):X);rw[←hX];refine ay (rvs:=rv60) (j:=ir60) Tryz.func60 rfl (by kernel_rfl) (nb rfl) (by kernel_rfl) ac ?_;intro g2 F hg2 hF;obtain rfl:g2=g:=hg2.unique.trans hg.symm;clear hg2;obtain⟨wrap,lt,_,_,_,_,_,_,_,_,_,_,int,add,_,_,_,_,_,_,_,_,_,_,dlen,_,_,_,rd⟩:=g2;obtain⟨_,_,_,_,r_Leg,_,r_I64,d_I64,_,_,_,_,r_S,d_S⟩:=t
 obtain⟨a0_Legs,a0_Off,a0_Change⟩:=a0;have hfr_I64:∀l,f7 (d_I64 l)=true:=Bg ht;unfold aW at h;try dsimp only at h
 cbv;obtain⟨x1,hx1,h⟩:=af h;try dsimp only at h
 refine ACall.mk _ _ rfl (hF _ _ _ (iv hg ht hx1)) (.inl rfl) (nb rfl) ?_;cbv;refine AStep.mk (en ht (ap hg ht _)) ?_;cbv;obtain⟨x2,hx2,h⟩:=ah h;try dsimp only at h
 refine ACall.mk _ _ (by rw[show rd (d_S x1) 0 (dlen (d_S x1))=r_S x1 from gp hg ht (ap hg ht _)];try rfl) (hF _ _ _ (dV hg ht hx2)) (.inr rfl) (nb rfl) ?_
 cbv;obtain⟨x3,hx3,h⟩:=af h;try dsimp only at h
 refine ACall.mk _ _ rfl (hF _ _ _ (mA hg ht hx3)) (.inl rfl) (nb rfl) ?_;cbv
 cases hb1:x3
 ·rw[aa hb1] at h;cbv;iterate 2 try(rw[hb1];cbv)
  obtain⟨l4,hl4,h⟩:=ah h;try dsimp only at h
  refine ANew.mk (d_I64 l4) (dlen (d_I64 l4)) (by rw[←hl4];exact dB hg ht []) (by rw[←hl4];exact cH hg ht []) ?_;cbv;obtain rfl:=Option.some.inj h;exact ARet.mk ⟨rfl,(ak hg ht _)⟩ hX.symm
 rw[ab hb1] at h;cbv;iterate 2 try(rw[hb1];cbv)
 cases hb2:(lt x2 0)
 rotate_left
 ·rw[ab hb2] at h;cbv;iterate 2 try(rw[hb2];cbv)
  obtain⟨l1,hl1,h⟩:=ah h;try dsimp only at h
  refine ANew.mk (d_I64 l1) (dlen (d_I64 l1)) (by rw[←hl1];exact dB hg ht []) (by rw[←hl1];exact cH hg ht []) ?_;cbv;obtain rfl:=Option.some.inj h;exact ARet.mk ⟨rfl,(ak hg ht _)⟩ hX.symm
 rw[aa hb2] at h;cbv;iterate 2 try(rw[hb2];cbv)
 cases hb3:(lt 100000 a2)
 rotate_left
 ·rw[ab hb3] at h;cbv;iterate 2 try(rw[hb3];cbv)
  obtain⟨l2,hl2,h⟩:=ah h;try dsimp only at h
  refine ANew.mk (d_I64 l2) (dlen (d_I64 l2)) (by rw[←hl2];exact dB hg ht []) (by rw[←hl2];exact cH hg ht []) ?_;cbv;obtain rfl:=Option.some.inj h;exact ARet.mk ⟨rfl,(ak hg ht _)⟩ hX.symm
 rw[aa hb3] at h;cbv;iterate 2 try(rw[hb3];cbv)
 cases hb4:(lt a3 0)
 rotate_left
 ·rw[ab hb4] at h;cbv;obtain⟨l3,hl3,h⟩:=ah h;try dsimp only at h
  refine ANew.mk (d_I64 l3) (dlen (d_I64 l3)) (by rw[←hl3];exact dB hg ht []) (by rw[←hl3];exact cH hg ht []) ?_;cbv;obtain rfl:=Option.some.inj h;exact ARet.mk ⟨rfl,(ak hg ht _)⟩ hX.symm
 rw[aa hb4] at h;cbv;refine AStep.mk (en ht (ap hg ht _)) ?_;cbv;obtain⟨x4,hx4,h⟩:=af h;try dsimp only at h
 refine ACall.mk _ _ (by rw[show rd (d_S x1) 0 (dlen (d_S x1))=r_S x1 from gp hg ht (ap hg ht _)];try rfl) (hF _ _ _ (v8 hg ht hx4)) (.inr (by simp only[Go.Vs.X.fresh,Go.Vs.X.freshs,jg,eO,Bool.and_self,hfr_I64])) (nb rfl) ?_
 cbv;obtain⟨hB1,h⟩:=aj h;obtain⟨o1,ho1,h⟩:=af h;try dsimp only at h
 try rw[hg] at ho1
 try rw[ht] at ho1
 refine ABL.mk {p:Nat×Int×List Int//p.1=aA p.2.1 a3∧0≤p.2.1∧bq G.real TE.real (Network.mk a0_Legs a0_Off a0_Change) x1 x2 p.1 p.2.1 p.2.2=some o1} (fun⟨⟨n1,v1,w1⟩,_⟩=>({sl:=[(3,.c (.r (.v (.int .i64 a3)))),(4,.c (.p 0 3 0 0)),(9,.c (.f 1 1 0 (dlen (d_S x1)))),(10,.c (.r (.v (.int .i64 x2)))),(11,.c (.f 2 1 0 (dlen (d_I64 w1)))),(12,.c (.r (.v (.int .i64 v1))))],tab:=[(0,some (.foc 3 [] [.r (.s 6 (r_Leg a0_Legs)),.r (.s 1 (r_I64 a0_Off)),.r (.v (.int .i64 a0_Change))] [])),(1,some (.arr 1 (d_S x1))),(2,some (.arr 1 (d_I64 w1)))]}:St)) 3 (fun p=>p.1.1) ⟨(aA 0 a3,0,x4),rfl,Int.le_refl _,ho1⟩ (List Int) (fun y1=>({sl:=[(11,.c (.f 0 1 0 (dlen (d_I64 y1))))],tab:=[(0,some (.arr 1 (d_I64 y1)))]}:St)) 1 (fun y=>o1=y) ?_ ?_ ?_
 ·refine Wk.of [(0,some 0),(1,some 48),(2,some 432)] rfl rfl ?_ ?_
  ·cbv;all_goals exact⟨⟨_,rfl,rfl⟩,⟨_,rfl,rfl⟩,⟨_,rfl,rfl⟩,⟨_,rfl,rfl⟩,⟨_,rfl,rfl⟩,⟨_,rfl,rfl⟩,trivial⟩
  cbv;all_goals exact⟨⟨_,rfl,_,rfl,rfl,rfl,rfl,trivial⟩,⟨_,rfl,rfl⟩,⟨_,rfl,rfl⟩,trivial⟩
 ·rintro⟨⟨n1,v1,w1⟩,hn1,hi1,h_1⟩ hq1;try dsimp only at hn1 hi1 h_1
  clear hq1;cbv;rcases n1 with _|n1
  ·have hb5:lt v1 a3=false:=bY hg hn1;rw[bq] at h_1;try rw[←hg] at h_1
   try rw[←ht] at h_1
   try dsimp only at h_1
   rw[hb5];cbv;iterate 4 try(rw[hb5];cbv)
   refine⟨w1,Wk.of [(0,some 2)] rfl rfl ?_ ?_,(Option.some.inj h_1).symm⟩
   ·cbv;all_goals exact⟨⟨_,rfl,rfl⟩,trivial⟩
   cbv;all_goals exact⟨⟨_,rfl,rfl⟩,trivial⟩
  have hb5:lt v1 a3=true:=c7 hg hn1;have hl1:=fv hn1;have hs1:=d6 hg hn1 hi1 hB1 (by decide);rw[bq] at h_1;try rw[←hg] at h_1
  try rw[←ht] at h_1
  try dsimp only at h_1
  rw[hb5];cbv;iterate 4 try(rw[hb5];cbv)
  cases hb6:(lt v1 (int (dlen (d_S x1))))
  ·rw[aa hb6] at h_1;cbv;refine⟨w1,Wk.of [(0,some 2)] rfl rfl ?_ ?_,(Option.some.inj h_1).symm⟩
   ·cbv;all_goals exact⟨⟨_,rfl,rfl⟩,trivial⟩
   cbv;all_goals exact⟨⟨_,rfl,rfl⟩,trivial⟩
  rw[ab hb6] at h_1;cbv;refine AStep.mk ⟨(en ht (ap hg ht _)),(n6 ht (ak hg ht _))⟩ ?_;cbv;obtain⟨x5,hx5,h_1⟩:=af h_1;try dsimp only at h_1
  refine ACall.mk _ _ (by rw[show rd (d_S x1) 0 (dlen (d_S x1))=r_S x1 from gp hg ht (ap hg ht _),show rd (d_I64 w1) 0 (dlen (d_I64 w1))=r_I64 w1 from qh hg ht (ak hg ht _)];try rfl) (hF _ _ _ (we hg ht hx5)) (.inr (by simp only[Go.Vs.X.fresh,Go.Vs.X.freshs,jg,eO,Bool.and_self,hfr_I64])) (nb rfl) ?_
  cbv;try rw[hg] at h_1
  try rw[ht] at h_1
  refine⟨⟨(n1,(wrap .i64 (add v1 1)),x5),hs1.1,hs1.2,h_1⟩,Wk.of [(0,some 0),(1,some 1),(2,some 211)] rfl rfl ?_ ?_,Nat.lt_succ_self _⟩
  ·cbv;all_goals exact⟨⟨_,rfl,rfl⟩,⟨_,rfl,rfl⟩,⟨_,rfl,rfl⟩,⟨_,rfl,rfl⟩,⟨_,rfl,rfl⟩,⟨_,rfl,rfl⟩,trivial⟩
  cbv;all_goals exact⟨⟨_,rfl,_,rfl,rfl,rfl,rfl,trivial⟩,⟨_,rfl,rfl⟩,⟨_,rfl,rfl⟩,trivial⟩
 rintro y1 hy1;replace hy1:=hy1.symm;subst hy1;try dsimp only[lr,lrL,lrp,aZ] at h
 cbv;obtain rfl:=Option.some.inj h;exact ARet.mk ⟨rfl,(ak hg ht _)⟩ hX.symm
def ir57:J:=js [jq 4 (.box 0),jm 8 (ki 0)] [1,2,3,4] (js [jl 12 3 4,jc 13 58 [12],jm 9 13] [1,2,3,4,9] (js [jm 14 9,jm 15 2,jc 16 59 [14,15],jm 10 16] [1,3,4,9,10] (js [jl 17 3 4,jm 18 1,jm 19 3,jm 20 9,jq 21 (.len false 20),jc 22 60 [17,18,19,21],jm 11 22] [10,11] (.seq (js [jm 23 10,jb 24 .lss .i 23 (ki 0),jm 25 24,jv 26 25 (.mv 11),jv 27 25 (.len false 26),jv 28 25 (.bin .eql .i 27 (ki 0)),jq 29 (.pick 25 kt 28)] [10,11,29] (.cond 29 (js [jq 8 (.mv (.k (V.i (-1))))] [8] .ret) .skip)) (js [jm 30 11,jm 31 10,ja 32 1 30 31,jk 33 32,jm 8 33] [8] .ret)))))
def rv57:List RV:=[.t 8]
def gm (g:G) (t:TE) (a0:Network) (a1:ByteArray) (a2:ByteArray) (a3:Int):Option Int:=
 cl (eM g t a0) fun x1=>
 lP (df g t x1 a2) fun x2=>
 cl (aW g t a0 a1 a3 (g.int (g.dlen (t.d_S x1)))) fun x3=>
 br (g.lt x2 0)
 (
  some (-1))
 (
  br (g.eq (g.int (g.dlen (t.d_I64 x3))) 0)
  (
   some (-1))
  (
   gd (((0:Int)≤x2∧x2<(((g.dlen (t.d_I64 x3)):Nat):Int)))<|
   gt x3 (g.nat x2) fun x4=>
   some x4))
theorem qC {g:G} {t:TE} {a0:Network} {a1:ByteArray} {a2:ByteArray} {a3:Int} {r:Int} (hg:g=G.real) (ht:t=TE.real) (h:gm g t a0 a1 a2 a3=some r):Fn Tryz.prog 57 [.g (Network.rs t a0),.c (.v (.string a1)),.c (.v (.string a2)),.c (.v (.int .i64 a3))] (.c (.r (.v (.int .i64 r)))):=by
 obtain⟨X,hX⟩:=aC (.c (.r (.v (.int .i64 r))):X);rw[←hX];refine ay (rvs:=rv57) (j:=ir57) Tryz.func57 rfl (by kernel_rfl) (nb rfl) (by kernel_rfl) ac ?_;intro g2 F hg2 hF;obtain rfl:g2=g:=hg2.unique.trans hg.symm;clear hg2;obtain⟨_,lt,_,eq,_,_,_,_,_,_,_,_,int,_,_,_,_,_,_,_,_,_,_,_,dlen,_,_,_,rd⟩:=g2;obtain⟨_,_,_,_,_,_,_,d_I64,_,_,_,_,r_S,d_S⟩:=t
 obtain⟨a0_Legs,a0_Off,a0_Change⟩:=a0;unfold gm at h;try dsimp only at h
 cbv;obtain⟨x1,hx1,h⟩:=af h;try dsimp only at h
 refine ACall.mk _ _ rfl (hF _ _ _ (iv hg ht hx1)) (.inl rfl) (nb rfl) ?_;cbv;refine AStep.mk (en ht (ap hg ht _)) ?_;cbv;obtain⟨x2,hx2,h⟩:=ah h;try dsimp only at h
 refine ACall.mk _ _ (by rw[show rd (d_S x1) 0 (dlen (d_S x1))=r_S x1 from gp hg ht (ap hg ht _)];try rfl) (hF _ _ _ (dV hg ht hx2)) (.inr rfl) (nb rfl) ?_
 cbv;obtain⟨x3,hx3,h⟩:=af h;try dsimp only at h
 refine ACall.mk _ _ rfl (hF _ _ _ (gv hg ht hx3)) (.inl rfl) (nb rfl) ?_;cbv
 cases hb1:(lt x2 0)
 rotate_left
 ·rw[ab hb1] at h;cbv;iterate 3 try(rw[hb1];cbv)
  obtain rfl:=Option.some.inj h;exact ARet.mk trivial hX.symm
 rw[aa hb1] at h;cbv;iterate 3 try(rw[hb1];cbv)
 cases hb2:(eq (int (dlen (d_I64 x3))) 0)
 rotate_left
 ·rw[ab hb2] at h;cbv;obtain rfl:=Option.some.inj h;exact ARet.mk trivial hX.symm
 rw[aa hb2] at h;cbv;obtain⟨hc1,h⟩:=aj h;refine AStep.mk hc1 ?_;cbv;obtain⟨x4,hx4,h⟩:=aD h;try dsimp only at h
 refine AGet.mk _ (bu hg ht hx4) ?_;cbv;obtain rfl:=Option.some.inj h;exact ARet.mk trivial hX.symm
def ir61:J:=js [jq 6 (.box 0),jq 12 (.alloc [.r (.v (.int .i64 0)),.r (.v (.int .i64 0))])] [1,2,3,4,5,6,12] (.seq (js [jm 13 (ki 0)] [1,2,3,4,5,6,12,13] (.bl 0 (.seq (js [jm 16 13,jf 17 0 6,jk 18 17,jq 19 (.len false 18),jb 20 .lss .i 16 19] [1,2,3,4,5,6,12,13,20] (.cond 20 .skip (.exit 0))) (.seq (.block 1 (js [jm 23 1,jf 24 0 6,jk 25 24,jm 26 13,ja 27 6 25 26,jf 28 0 27,jk 29 28,jc 30 59 [23,29],jm 14 30] [1,2,3,4,5,6,12,13,14] (.seq (.seq (.reg (some [[],[0],[],[0,1,2],[0,1,2,3],[0,1,2,3,4],[],[],[6,7],[6,7,8],[0,1,2,3,4,5,6,7,8,9],[0,1,2,3,4,5,6,7,8,9,10],[0,1,2,3,4,5,6,7,8,9,10,11],[0,1,2,3,4,5,6,7,8,9,10,11],[0,1,2,3,4,5,6,7,8,9,10,11,12,13],[0,1,2,3,4,5,6,7,8,9,10,11,12,13,14],[0,1,2,3,4,5,6,7,8,9,10,11,12,13,14,15],[0,1,2,3,4,5,6,7,8,9,10,11,12,13,14,15,16]]) [jf 31 0 6,jk 32 31,jm 33 13,ja 34 6 32 33,jf 35 1 34,jk 36 35,jm 37 1,jm 38 4,ja 39 1 37 38,jk 40 39,jb 41 .neq .s 36 40,jm 42 41,jv 43 42 (.mv 2),jv 44 42 (.mv 14),jv 45 42 (.ia 1 43 44),jv 46 42 (.ld false 1 45),jv 47 42 (.bin .lss .i 46 (ki 0)),jq 48 (.pick 42 kt 47)] [1,2,3,4,5,6,12,13,14,48]) (.cond 48 (.exit 1) .skip)) (.seq (.reg (some [[],[],[],[],[],[],[4,5],[4,5,6],[],[],[8,9],[3,4,5,6,7,8,9,10],[1,2,3,4,5,6,7,8,9,10,11],[0,1,2,3,4,5,6,7,8,9,10,11,12],[],[0,1,2,3,4,5,6,7,8,9,10,11,12,13,14]]) [jm 49 13,jl 50 3 6,jm 51 13,jl 52 3 6,jm 53 2,jm 54 14,ja 55 1 53 54,jk 56 55,jm 57 14,jm 58 3,jb 59 .eql .i 57 58,jc 60 117 [52,56,59],jc 61 116 [50,51,60],jq 62 (.bld [.r (.v (.int .i64 0)),.r (.v (.int .i64 0))] [(0,1,49),(1,1,61)]),jq 15 (.alloc [.r (.v (.int .i64 0)),.r (.v (.int .i64 0))]),jp (.st 2 15 62)] [1,2,3,4,5,6,12,13,15]) (js [jf 63 1 15,jk 64 63,jb 65 .geq .i 64 (ki 0),jm 66 65,ju 67 66 (.ld true 3 6),ju 68 66 (.ld true 2 15),ju 69 66 (.call 118 true [67,68]),ju 70 66 (.mv 5),ju 71 66 (.bin .eql .i 69 70),jq 72 (.pick 66 71 kf)] [1,2,3,4,5,6,12,13,15,72] (.cond 72 (js [jl 73 2 15,jp (.st 2 12 73)] [12] .ret) .skip)))))) (.reg none [jm 21 13,jb 22 .add .i 21 (ki 1),jm 13 22] [1,2,3,4,5,6,12,13]))))) (js [jq 74 (.bld [.r (.v (.int .i64 0)),.r (.v (.int .i64 0))] []),jp (.st 2 12 74)] [12] .ret))
def rv61:List RV:=[.c 12 true 2]
def cC (g:G) (t:TE) (a0:Network) (a1:List ByteArray) (a2:List Int) (a3:Int) (a4:Int) (a5:Int):List Leg→Int→Option (LR Trip Unit)
 |[],v1=>
  some (LR.out ())
 |z1::ls1,v1=>
  lP (df g t a1 z1.From) fun x1=>
  gd (((0:Int)≤a4))<|
  gt a1 (g.nat a4) fun x2=>
  br (g.seq z1.To x2)
  (
   gd (((0:Int)≤x1))<|
   gt a2 (g.nat x1) fun x3=>
   br (g.lt x3 0)
   (
    cC g t a0 a1 a2 a3 a4 a5 ls1 (g.wrap .i64 (g.add v1 1)))
   (
    gd (((0:Int)≤x1))<|
    lP (fM g t a0 x3 (g.eq x1 a3)) fun x4=>
    cl (iM g t a0 v1 x4) fun x5=>
    br (g.le 0 x5)
    (
     cl (hJ g t a0 (Trip.mk v1 x5)) fun x6=>
     br (g.eq x6 a5)
     (
      some (LR.ret (Trip.mk v1 x5)))
     (
      cC g t a0 a1 a2 a3 a4 a5 ls1 (g.wrap .i64 (g.add v1 1))))
    (
     cC g t a0 a1 a2 a3 a4 a5 ls1 (g.wrap .i64 (g.add v1 1)))))
  (
   cC g t a0 a1 a2 a3 a4 a5 ls1 (g.wrap .i64 (g.add v1 1)))
def oo (g:G) (t:TE) (a0:Network) (a1:List ByteArray) (a2:List Int) (a3:Int) (a4:Int) (a5:Int):Option Trip:=
 cl (cC g t a0 a1 a2 a3 a4 a5 a0.Legs 0) fun o1=>lr o1 fun y1=>
 some (Trip.mk 0 0)
theorem yn {g:G} {t:TE} {a0:Network} {a1:List ByteArray} {a2:List Int} {a3:Int} {a4:Int} {a5:Int} {r:Trip} (hg:g=G.real) (ht:t=TE.real) (h:oo g t a0 a1 a2 a3 a4 a5=some r):Fn Tryz.prog 61 [.g (Network.rs t a0),.c (.s 1 (t.r_S a1)),.c (.s 1 (t.r_I64 a2)),.c (.v (.int .i64 a3)),.c (.v (.int .i64 a4)),.c (.v (.int .i64 a5))] (.g (Trip.ds t r)):=by
 obtain⟨X,hX⟩:=aC (.g (Trip.ds t r):X);rw[←hX];refine ay (rvs:=rv61) (j:=ir61) Tryz.func61 rfl (by kernel_rfl) (nb rfl) (by kernel_rfl) ac ?_;intro g2 F hg2 hF;obtain rfl:g2=g:=hg2.unique.trans hg.symm;clear hg2;obtain⟨wrap,lt,le,eq,_,_,_,_,_,_,_,_,_,add,_,_,_,seq,_,_,_,llen⟩:=g2;obtain⟨_,_,_,_,r_Leg,_,r_I64,_,_,_,_,_,r_S⟩:=t
 obtain⟨a0_Legs,a0_Off,a0_Change⟩:=a0;unfold oo at h;try dsimp only at h
 cbv;obtain⟨o1,ho1,h⟩:=af h;try dsimp only at h
 try rw[hg] at ho1
 try rw[ht] at ho1
 refine ABL.mk {p:Nat×Int//p.1≤a0_Legs.length∧p.2=((p.1:Nat):Int)∧cC G.real TE.real (Network.mk a0_Legs a0_Off a0_Change) a1 a2 a3 a4 a5 (List.drop p.1 a0_Legs) p.2=some o1} (fun⟨⟨k1,v1⟩,_⟩=>({sl:=[(1,.c (.r (.s 1 (r_S a1)))),(2,.c (.r (.s 1 (r_I64 a2)))),(3,.c (.r (.v (.int .i64 a3)))),(4,.c (.r (.v (.int .i64 a4)))),(5,.c (.r (.v (.int .i64 a5)))),(6,.c (.p 0 3 0 0)),(12,.c (.p 1 2 0 0)),(13,.c (.r (.v (.int .i64 v1))))],tab:=[(0,some (.foc 3 [] [.r (.s 6 (r_Leg a0_Legs)),.r (.s 1 (r_I64 a0_Off)),.r (.v (.int .i64 a0_Change))] [])),(1,some (.foc 2 [] [.r (.v (.int .i64 0)),.r (.v (.int .i64 0))] []))]}:St)) 2 (fun p=>a0_Legs.length-p.1.1) ⟨(0,0),Nat.zero_le _,rfl,ho1⟩ (Unit) (fun _=>({sl:=[(12,.c (.p 0 2 0 0))],tab:=[(0,some (.foc 2 [] [.r (.v (.int .i64 0)),.r (.v (.int .i64 0))] []))]}:St)) 1 (fun y=>o1=LR.out y) ?_ ?_ ?_
 ·refine Wk.of [(0,some 0),(1,some 16)] rfl rfl ?_ ?_
  ·cbv;all_goals exact⟨⟨_,rfl,rfl⟩,⟨_,rfl,rfl⟩,⟨_,rfl,rfl⟩,⟨_,rfl,rfl⟩,⟨_,rfl,rfl⟩,⟨_,rfl,rfl⟩,⟨_,rfl,rfl⟩,⟨_,rfl,rfl⟩,trivial⟩
  cbv;all_goals exact⟨⟨_,rfl,_,rfl,rfl,rfl,rfl,trivial⟩,⟨_,rfl,_,rfl,rfl,rfl,trivial⟩,trivial⟩
 ·rintro⟨⟨k1,v1⟩,hk1,hi1,h_1⟩ hq1;have hm1:=(hq1.2.2.1 0 _ _ _ _ 0 _ _ rfl rfl);try dsimp only at hk1 hi1 h_1
  clear hq1;cbv
  by_cases hc1_:k1<a0_Legs.length
  ·have hb1:lt v1 (llen (r_Leg a0_Legs))=true:=dC hg ht hi1 hc1_;have hs1:=fI hg ht hi1 hc1_ hm1;obtain⟨z1,hz1⟩:=aG hc1_;rw[ax hz1] at h_1;rw[cC] at h_1;obtain⟨z1_From,z1_To,z1_Start,z1_Takes,z1_Days,z1_Room⟩:=z1;try rw[←hg] at h_1
   try rw[←ht] at h_1
   try dsimp only at h_1
   rw[hb1];cbv;refine AStep.mk (ez hi1) ?_;cbv;refine AGet.mk _ (dY hg ht hi1 hz1) ?_;cbv;obtain⟨x1,hx1,h_1⟩:=ah h_1;try dsimp only at h_1
   refine ACall.mk _ _ rfl (hF _ _ _ (dV hg ht hx1)) (.inl rfl) (nb rfl) ?_;cbv;refine AStep.mk (ez hi1) ?_;cbv;refine AGet.mk _ (dY hg ht hi1 hz1) ?_;cbv;obtain⟨hc1,h_1⟩:=aj h_1;refine AStep.mk hc1 ?_;cbv;obtain⟨x2,hx2,h_1⟩:=aD h_1;try dsimp only at h_1
   refine AGet.mk _ (qn hg ht hx2) ?_;cbv
   cases hb2:(seq z1_To x2)
   ·rw[aa hb2] at h_1;cbv;iterate 5 try(rw[hb2];cbv)
    try rw[hg] at h_1
    try rw[ht] at h_1
    refine⟨⟨(k1+1,(wrap .i64 (add v1 1))),hc1_,hs1,h_1⟩,Wk.of [(0,some 0),(1,some 1)] rfl rfl ?_ ?_,aK hc1_⟩
    ·cbv;all_goals exact⟨⟨_,rfl,rfl⟩,⟨_,rfl,rfl⟩,⟨_,rfl,rfl⟩,⟨_,rfl,rfl⟩,⟨_,rfl,rfl⟩,⟨_,rfl,rfl⟩,⟨_,rfl,rfl⟩,⟨_,rfl,rfl⟩,trivial⟩
    cbv;all_goals exact⟨⟨_,rfl,_,rfl,rfl,rfl,rfl,trivial⟩,⟨_,rfl,_,rfl,rfl,rfl,trivial⟩,trivial⟩
   rw[ab hb2] at h_1;cbv;iterate 2 try(rw[hb2];cbv)
   obtain⟨hc2,h_1⟩:=aj h_1;refine AStep.mk hc2 ?_;cbv;obtain⟨x3,hx3,h_1⟩:=aD h_1;try dsimp only at h_1
   refine AGet.mk _ (ei hg ht hx3) ?_;cbv;iterate 3 try(rw[hb2];cbv)
   cases hb3:(lt x3 0)
   rotate_left
   ·rw[ab hb3] at h_1;cbv;try rw[hg] at h_1
    try rw[ht] at h_1
    refine⟨⟨(k1+1,(wrap .i64 (add v1 1))),hc1_,hs1,h_1⟩,Wk.of [(0,some 0),(1,some 1)] rfl rfl ?_ ?_,aK hc1_⟩
    ·cbv;all_goals exact⟨⟨_,rfl,rfl⟩,⟨_,rfl,rfl⟩,⟨_,rfl,rfl⟩,⟨_,rfl,rfl⟩,⟨_,rfl,rfl⟩,⟨_,rfl,rfl⟩,⟨_,rfl,rfl⟩,⟨_,rfl,rfl⟩,trivial⟩
    cbv;all_goals exact⟨⟨_,rfl,_,rfl,rfl,rfl,rfl,trivial⟩,⟨_,rfl,_,rfl,rfl,rfl,trivial⟩,trivial⟩
   rw[aa hb3] at h_1;cbv;obtain⟨hc3,h_1⟩:=aj h_1;refine AStep.mk hc3 ?_;cbv;refine AGet.mk _ (ei hg ht hx3) ?_;cbv;obtain⟨x4,hx4,h_1⟩:=ah h_1;try dsimp only at h_1
   refine ACall.mk _ _ rfl (hF _ _ _ (pu hg ht hx4)) (.inl rfl) (nb rfl) ?_;cbv;obtain⟨x5,hx5,h_1⟩:=af h_1;try dsimp only at h_1
   refine ACall.mk _ _ rfl (hF _ _ _ (qR hg ht hx5)) (.inl rfl) (nb rfl) ?_;cbv
   cases hb4:(le 0 x5)
   ·rw[aa hb4] at h_1;cbv;iterate 5 try(rw[hb4];cbv)
    try rw[hg] at h_1
    try rw[ht] at h_1
    refine⟨⟨(k1+1,(wrap .i64 (add v1 1))),hc1_,hs1,h_1⟩,Wk.of [(0,some 0),(1,some 1)] rfl rfl ?_ ?_,aK hc1_⟩
    ·cbv;all_goals exact⟨⟨_,rfl,rfl⟩,⟨_,rfl,rfl⟩,⟨_,rfl,rfl⟩,⟨_,rfl,rfl⟩,⟨_,rfl,rfl⟩,⟨_,rfl,rfl⟩,⟨_,rfl,rfl⟩,⟨_,rfl,rfl⟩,trivial⟩
    cbv;all_goals exact⟨⟨_,rfl,_,rfl,rfl,rfl,rfl,trivial⟩,⟨_,rfl,_,rfl,rfl,rfl,trivial⟩,trivial⟩
   rw[ab hb4] at h_1;cbv;iterate 2 try(rw[hb4];cbv)
   obtain⟨x6,hx6,h_1⟩:=af h_1;try dsimp only at h_1
   refine ACall.mk _ _ rfl (hF _ _ _ (m8 hg ht hx6)) (.inl rfl) (nb rfl) ?_;cbv;iterate 3 try(rw[hb4];cbv)
   cases hb5:(eq x6 a5)
   rotate_left
   ·rw[ab hb5] at h_1;cbv;obtain rfl:=Option.some.inj h_1;try dsimp only[lr,lrL,lrp,aZ] at h
    obtain rfl:=Option.some.inj h;exact ARet.mk trivial hX.symm
   rw[aa hb5] at h_1;cbv;try rw[hg] at h_1
   try rw[ht] at h_1
   refine⟨⟨(k1+1,(wrap .i64 (add v1 1))),hc1_,hs1,h_1⟩,Wk.of [(0,some 0),(1,some 1)] rfl rfl ?_ ?_,aK hc1_⟩
   ·cbv;all_goals exact⟨⟨_,rfl,rfl⟩,⟨_,rfl,rfl⟩,⟨_,rfl,rfl⟩,⟨_,rfl,rfl⟩,⟨_,rfl,rfl⟩,⟨_,rfl,rfl⟩,⟨_,rfl,rfl⟩,⟨_,rfl,rfl⟩,trivial⟩
   cbv;all_goals exact⟨⟨_,rfl,_,rfl,rfl,rfl,rfl,trivial⟩,⟨_,rfl,_,rfl,rfl,rfl,trivial⟩,trivial⟩
  have hb1:lt v1 (llen (r_Leg a0_Legs))=false:=cP hg ht hi1 hc1_;rw[List.drop_of_length_le (Nat.le_of_not_lt hc1_)] at h_1;rw[cC] at h_1;try rw[←hg] at h_1
  try rw[←ht] at h_1
  try dsimp only at h_1
  rw[hb1];cbv;refine⟨(),Wk.of [(0,some 1)] rfl rfl ?_ ?_,(Option.some.inj h_1).symm⟩
  ·cbv;all_goals exact⟨⟨_,rfl,rfl⟩,trivial⟩
  cbv;all_goals exact⟨⟨_,rfl,_,rfl,rfl,rfl,trivial⟩,trivial⟩
 rintro _ hy1;replace hy1:=hy1.symm;subst hy1;try dsimp only[lr,lrL,lrp,aZ] at h
 cbv;obtain rfl:=Option.some.inj h;exact ARet.mk trivial hX.symm
def ir14:J:=js [jq 4 (.box 0),jq 8 (.mv (.k (.c (.n 2)))),jm 9 kf] [1,2,3,4] (js [jl 19 3 4,jm 20 1,jm 21 2,jm 22 3,jc 23 57 [19,20,21,22],jm 10 23] [1,2,3,4,10] (.seq (js [jm 24 10,jb 25 .lss .i 24 (ki 0)] [1,2,3,4,10,25] (.cond 25 (js [jq 26 (.bsl 2 []),jm 8 26,jm 9 kf] [8,9] .ret) .skip)) (js [jl 27 3 4,jc 28 58 [27],jm 11 28] [1,2,3,4,10,11] (js [jm 29 11,jm 30 1,jc 31 59 [29,30],jm 12 31] [1,2,3,4,10,11,12] (js [jm 32 11,jm 33 2,jc 34 59 [32,33],jm 13 34] [1,3,4,10,11,12,13] (js [jm 14 (ki 0)] [1,3,4,10,11,12,13,14] (.seq (.bl 0 (.seq (js [jl 35 3 4,jm 36 1,jm 37 3,jm 38 14,jc 39 60 [35,36,37,38],jm 40 13,ja 41 1 39 40,jk 42 41,jm 43 10,jb 44 .neq .i 42 43] [1,3,4,10,11,12,13,14,44] (.cond 44 .skip (.exit 0))) (.block 1 (.reg none [jm 45 14,jb 46 .add .i 45 (ki 1),jm 14 46] [1,3,4,10,11,12,13,14])))) (js [jq 47 (.bsl 2 []),jm 15 47] [1,3,4,10,11,12,13,14,15] (.seq (js [jm 48 14,jm 16 48] [1,3,4,10,11,12,13,15,16] (.bl 2 (.seq (js [jm 49 16,jb 50 .gtr .i 49 (ki 0)] [1,3,4,10,11,12,13,15,16,50] (.cond 50 .skip (.exit 2))) (.seq (.block 3 (js [jl 53 3 4,jm 54 1,jm 55 3,jm 56 16,jb 57 .sub .i 56 (ki 1),jc 58 60 [53,54,55,57],jm 17 58] [1,3,4,10,11,12,13,15,16,17] (js [jl 59 3 4,jm 60 11,jm 61 17,jm 62 12,jm 63 13,jm 64 10,jc 65 61 [59,60,61,62,63,64],jq 18 (.alloc [.r (.v (.int .i64 0)),.r (.v (.int .i64 0))]),jp (.st 2 18 65)] [1,3,4,11,12,15,16,17,18] (js [jl 66 2 18,jq 67 (.bsl 2 [66]),jm 68 15,jq 69 (.app 2 16 false 67 68),jm 15 69] [1,3,4,11,12,15,16,17,18] (js [jm 70 11,jf 71 0 4,jk 72 71,jf 73 0 18,jk 74 73,ja 75 6 72 74,jf 76 0 75,jk 77 76,jc 78 59 [70,77],jm 13 78] [1,3,4,11,12,13,15,16,17] (.reg none [jm 79 17,jm 80 13,ja 81 1 79 80,jk 82 81,jm 10 82] [1,3,4,10,11,12,13,15,16])))))) (.reg none [jm 51 16,jb 52 .sub .i 51 (ki 1),jm 16 52] [1,3,4,10,11,12,13,15,16]))))) (js [jm 83 15,jm 8 83,jm 9 kt] [8,9] .ret))))))))))
def rv14:List RV:=[.t 8,.t 9]
def dA (g:G) (t:TE) (a0:Network) (a1:ByteArray) (a3:Int) (x2:List ByteArray) (x3:Int):Nat→Int→Int→List Trip→Int→Option (List Trip)
 |0,_,_,_,_=>none
 |n2+1,v2,v3,w1,v4=>
  br (g.lt 0 v4)
  (
   cl (aW g t a0 a1 a3 (g.wrap .i64 (g.sub v4 1))) fun x7=>
   cl (oo g t a0 x2 x7 x3 v3 v2) fun x8=>
   lP ([x8]) fun(l3:List Trip)=>
   gd (((l3.length+w1.length)*16≤70368744177664))<|
   lP (l3++w1) fun(l4:List Trip)=>
   gd (((0:Int)≤x8.Leg))<|
   gt a0.Legs (g.nat x8.Leg) fun x9=>
   lP (df g t x2 x9.From) fun x10=>
   gd (((0:Int)≤x10∧x10<(((g.dlen (t.d_I64 x7)):Nat):Int)))<|
   gt x7 (g.nat x10) fun x11=>
   dA g t a0 a1 a3 x2 x3 n2 x11 x10 l4 (g.wrap .i64 (g.sub v4 1)))
  (
   some w1)
def d7 (g:G) (t:TE) (a0:Network) (a1:ByteArray) (a3:Int) (x1:Int) (x4:Int):Nat→Int→Option Int
 |0,_=>none
 |n1+1,v1=>
  cl (aW g t a0 a1 a3 v1) fun x5=>
  gd (((0:Int)≤x4∧x4<(((g.dlen (t.d_I64 x5)):Nat):Int)))<|
  gt x5 (g.nat x4) fun x6=>
  br (g.eq x6 x1)
  (
   some v1)
  (
   d7 g t a0 a1 a3 x1 x4 n1 (g.wrap .i64 (g.add v1 1)))
def gI (g:G) (t:TE) (a0:Network) (a1:ByteArray) (a2:ByteArray) (a3:Int):Option ((List Trip)×Bool):=
 cl (gm g t a0 a1 a2 a3) fun x1=>
 br (g.lt x1 0)
 (
  lP ([]) fun(l1:List Trip)=>
  some ((l1,false)))
 (
  cl (eM g t a0) fun x2=>
  lP (df g t x2 a1) fun x3=>
  lP (df g t x2 a2) fun x4=>
  cl (d7 g t a0 a1 a3 x1 x4 1000000000 0) fun y1=>
  lP ([]) fun(l2:List Trip)=>
  cl (dA g t a0 a1 a3 x2 x3 1000000000 x1 x4 l2 y1) fun y2=>
  some ((y2,true)))
theorem lh {g:G} {t:TE} {a0:Network} {a1:ByteArray} {a2:ByteArray} {a3:Int} {r:(List Trip)×Bool} (hg:g=G.real) (ht:t=TE.real) (h:gI g t a0 a1 a2 a3=some r):Fn Tryz.prog 14 [.g (Network.rs t a0),.c (.v (.string a1)),.c (.v (.string a2)),.c (.v (.int .i64 a3))] (.u [.c (.o 2 (t.d_Trip r.1)),.c (.r (.v (.bool r.2)))]):=by
 obtain⟨X,hX⟩:=aC (.u [.c (.o 2 (t.d_Trip r.1)),.c (.r (.v (.bool r.2)))]:X);rw[←hX];refine ay (rvs:=rv14) (j:=ir14) Tryz.func14 rfl (by kernel_rfl) (nb rfl) (by kernel_rfl) ac ?_;intro g2 F hg2 hF;obtain rfl:g2=g:=hg2.unique.trans hg.symm;clear hg2;obtain⟨wrap,lt,_,eq,_,_,_,_,_,_,_,_,_,add,sub,_,_,_,_,_,_,_,_,_,dlen,_,_,_,rd⟩:=g2;obtain⟨_,_,_,_,r_Leg,_,r_I64,d_I64,_,d_Trip,_,_,r_S,d_S⟩:=t
 obtain⟨a0_Legs,a0_Off,a0_Change⟩:=a0;unfold gI at h;try dsimp only at h
 cbv;obtain⟨x1,hx1,h⟩:=af h;try dsimp only at h
 refine ACall.mk _ _ rfl (hF _ _ _ (qC hg ht hx1)) (.inl rfl) (nb rfl) ?_;cbv
 cases hb1:(lt x1 0)
 rotate_left
 ·rw[ab hb1] at h;cbv;obtain⟨l1,hl1,h⟩:=ah h;try dsimp only at h
  refine ANew.mk (d_Trip l1) (dlen (d_Trip l1)) (by rw[←hl1];exact hG hg ht []) (by rw[←hl1];exact fG hg ht []) ?_;cbv;obtain rfl:=Option.some.inj h;exact ARet.mk ⟨rfl,(aQ hg ht _)⟩ hX.symm
 rw[aa hb1] at h;cbv;obtain⟨x2,hx2,h⟩:=af h;try dsimp only at h
 refine ACall.mk _ _ rfl (hF _ _ _ (iv hg ht hx2)) (.inl rfl) (nb rfl) ?_;cbv;refine AStep.mk (en ht (ap hg ht _)) ?_;cbv;obtain⟨x3,hx3,h⟩:=ah h;try dsimp only at h
 refine ACall.mk _ _ (by rw[show rd (d_S x2) 0 (dlen (d_S x2))=r_S x2 from gp hg ht (ap hg ht _)];try rfl) (hF _ _ _ (dV hg ht hx3)) (.inr rfl) (nb rfl) ?_
 cbv;refine AStep.mk (en ht (ap hg ht _)) ?_;cbv;obtain⟨x4,hx4,h⟩:=ah h;try dsimp only at h
 refine ACall.mk _ _ (by rw[show rd (d_S x2) 0 (dlen (d_S x2))=r_S x2 from gp hg ht (ap hg ht _)];try rfl) (hF _ _ _ (dV hg ht hx4)) (.inr rfl) (nb rfl) ?_
 cbv;obtain⟨o1,ho1,h⟩:=af h;try dsimp only at h
 try rw[hg] at ho1
 try rw[ht] at ho1
 refine ABL.mk {p:Nat×Int//d7 G.real TE.real (Network.mk a0_Legs a0_Off a0_Change) a1 a3 x1 x4 p.1 p.2=some o1} (fun⟨⟨n1,v1⟩,_⟩=>({sl:=[(1,.c (.r (.v (.string a1)))),(3,.c (.r (.v (.int .i64 a3)))),(4,.c (.p 0 3 0 0)),(10,.c (.r (.v (.int .i64 x1)))),(11,.c (.f 1 1 0 (dlen (d_S x2)))),(12,.c (.r (.v (.int .i64 x3)))),(13,.c (.r (.v (.int .i64 x4)))),(14,.c (.r (.v (.int .i64 v1))))],tab:=[(0,some (.foc 3 [] [.r (.s 6 (r_Leg a0_Legs)),.r (.s 1 (r_I64 a0_Off)),.r (.v (.int .i64 a0_Change))] [])),(1,some (.arr 1 (d_S x2)))]}:St)) 2 (fun p=>p.1.1) ⟨(1000000000,0),ho1⟩ (Int) (fun y1=>({sl:=[(1,.c (.r (.v (.string a1)))),(3,.c (.r (.v (.int .i64 a3)))),(4,.c (.p 0 3 0 0)),(10,.c (.r (.v (.int .i64 x1)))),(11,.c (.f 1 1 0 (dlen (d_S x2)))),(12,.c (.r (.v (.int .i64 x3)))),(13,.c (.r (.v (.int .i64 x4)))),(14,.c (.r (.v (.int .i64 y1))))],tab:=[(0,some (.foc 3 [] [.r (.s 6 (r_Leg a0_Legs)),.r (.s 1 (r_I64 a0_Off)),.r (.v (.int .i64 a0_Change))] [])),(1,some (.arr 1 (d_S x2)))]}:St)) 2 (fun y=>o1=y) ?_ ?_ ?_
 ·refine Wk.of [(0,some 0),(1,some 192)] rfl rfl ?_ ?_
  ·cbv;all_goals exact⟨⟨_,rfl,rfl⟩,⟨_,rfl,rfl⟩,⟨_,rfl,rfl⟩,⟨_,rfl,rfl⟩,⟨_,rfl,rfl⟩,⟨_,rfl,rfl⟩,⟨_,rfl,rfl⟩,⟨_,rfl,rfl⟩,trivial⟩
  cbv;all_goals exact⟨⟨_,rfl,_,rfl,rfl,rfl,rfl,trivial⟩,⟨_,rfl,rfl⟩,trivial⟩
 ·rintro⟨⟨n1,v1⟩,h_1⟩ hq1;try dsimp only at h_1
  clear hq1;rcases n1 with _|n1
  ·rw[d7] at h_1;cases h_1
  rw[d7] at h_1;try rw[←hg] at h_1
  try rw[←ht] at h_1
  try dsimp only at h_1
  cbv;obtain⟨x5,hx5,h_1⟩:=af h_1;try dsimp only at h_1
  refine ACall.mk _ _ rfl (hF _ _ _ (gv hg ht hx5)) (.inl rfl) (nb rfl) ?_;cbv;obtain⟨hc1,h_1⟩:=aj h_1;refine AStep.mk hc1 ?_;cbv;obtain⟨x6,hx6,h_1⟩:=aD h_1;try dsimp only at h_1
  refine AGet.mk _ (bu hg ht hx6) ?_;cbv
  cases hb2:(eq x6 x1)
  rotate_left
  ·rw[ab hb2] at h_1;cbv;refine⟨v1,Wk.of [(0,some 0),(1,some 1)] rfl rfl ?_ ?_,(Option.some.inj h_1).symm⟩
   ·cbv;all_goals exact⟨⟨_,rfl,rfl⟩,⟨_,rfl,rfl⟩,⟨_,rfl,rfl⟩,⟨_,rfl,rfl⟩,⟨_,rfl,rfl⟩,⟨_,rfl,rfl⟩,⟨_,rfl,rfl⟩,⟨_,rfl,rfl⟩,trivial⟩
   cbv;all_goals exact⟨⟨_,rfl,_,rfl,rfl,rfl,rfl,trivial⟩,⟨_,rfl,rfl⟩,trivial⟩
  rw[aa hb2] at h_1;cbv;try rw[hg] at h_1
  try rw[ht] at h_1
  refine⟨⟨(n1,(wrap .i64 (add v1 1))),h_1⟩,Wk.of [(0,some 0),(1,some 1)] rfl rfl ?_ ?_,Nat.lt_succ_self _⟩
  ·cbv;all_goals exact⟨⟨_,rfl,rfl⟩,⟨_,rfl,rfl⟩,⟨_,rfl,rfl⟩,⟨_,rfl,rfl⟩,⟨_,rfl,rfl⟩,⟨_,rfl,rfl⟩,⟨_,rfl,rfl⟩,⟨_,rfl,rfl⟩,trivial⟩
  cbv;all_goals exact⟨⟨_,rfl,_,rfl,rfl,rfl,rfl,trivial⟩,⟨_,rfl,rfl⟩,trivial⟩
 rintro y1 hy1;replace hy1:=hy1.symm;subst hy1;try dsimp only[lr,lrL,lrp,aZ] at h
 cbv;obtain⟨l2,hl2,h⟩:=ah h;try dsimp only at h
 refine ANew.mk (d_Trip l2) (dlen (d_Trip l2)) (by rw[←hl2];exact hG hg ht []) (by rw[←hl2];exact fG hg ht []) ?_;cbv;obtain⟨o2,ho2,h⟩:=af h;try dsimp only at h
 try rw[hg] at ho2
 try rw[ht] at ho2
 refine ABL.mk {p:Nat×Int×Int×(List Trip)×Int//dA G.real TE.real (Network.mk a0_Legs a0_Off a0_Change) a1 a3 x2 x3 p.1 p.2.1 p.2.2.1 p.2.2.2.1 p.2.2.2.2=some o2} (fun⟨⟨n2,v2,v3,w1,v4⟩,_⟩=>({sl:=[(1,.c (.r (.v (.string a1)))),(3,.c (.r (.v (.int .i64 a3)))),(4,.c (.p 0 3 0 0)),(10,.c (.r (.v (.int .i64 v2)))),(11,.c (.f 1 1 0 (dlen (d_S x2)))),(12,.c (.r (.v (.int .i64 x3)))),(13,.c (.r (.v (.int .i64 v3)))),(15,.c (.f 2 2 0 (dlen (d_Trip w1)))),(16,.c (.r (.v (.int .i64 v4))))],tab:=[(0,some (.foc 3 [] [.r (.s 6 (r_Leg a0_Legs)),.r (.s 1 (r_I64 a0_Off)),.r (.v (.int .i64 a0_Change))] [])),(1,some (.arr 1 (d_S x2))),(2,some (.arr 2 (d_Trip w1)))]}:St)) 3 (fun p=>p.1.1) ⟨(1000000000,x1,x4,l2,y1),ho2⟩ (List Trip) (fun y2=>({sl:=[(15,.c (.f 0 2 0 (dlen (d_Trip y2))))],tab:=[(0,some (.arr 2 (d_Trip y2)))]}:St)) 1 (fun y=>o2=y) ?_ ?_ ?_
 ·refine Wk.of [(0,some 0),(1,some 1),(2,some 2)] rfl rfl ?_ ?_
  ·cbv;all_goals exact⟨⟨_,rfl,rfl⟩,⟨_,rfl,rfl⟩,⟨_,rfl,rfl⟩,⟨_,rfl,rfl⟩,⟨_,rfl,rfl⟩,⟨_,rfl,rfl⟩,⟨_,rfl,rfl⟩,⟨_,rfl,rfl⟩,⟨_,rfl,rfl⟩,trivial⟩
  cbv;all_goals exact⟨⟨_,rfl,_,rfl,rfl,rfl,rfl,trivial⟩,⟨_,rfl,rfl⟩,⟨_,rfl,rfl⟩,trivial⟩
 ·rintro⟨⟨n2,v2,v3,w1,v4⟩,h_2⟩ hq2;try dsimp only at h_2
  clear hq2;rcases n2 with _|n2
  ·rw[dA] at h_2;cases h_2
  rw[dA] at h_2;try rw[←hg] at h_2
  try rw[←ht] at h_2
  try dsimp only at h_2
  cbv
  cases hb3:(lt 0 v4)
  ·rw[aa hb3] at h_2;cbv;refine⟨w1,Wk.of [(0,some 2)] rfl rfl ?_ ?_,(Option.some.inj h_2).symm⟩
   ·cbv;all_goals exact⟨⟨_,rfl,rfl⟩,trivial⟩
   cbv;all_goals exact⟨⟨_,rfl,rfl⟩,trivial⟩
  rw[ab hb3] at h_2;cbv;obtain⟨x7,hx7,h_2⟩:=af h_2;try dsimp only at h_2
  refine ACall.mk _ _ rfl (hF _ _ _ (gv hg ht hx7)) (.inl rfl) (nb rfl) ?_;cbv;refine AStep.mk ⟨(en ht (ap hg ht _)),(n6 ht (ak hg ht _))⟩ ?_;cbv;obtain⟨x8,hx8,h_2⟩:=af h_2;obtain⟨x8_Leg,x8_Day⟩:=x8;try dsimp only at h_2
  refine ACall.mk _ _ (by rw[show rd (d_S x2) 0 (dlen (d_S x2))=r_S x2 from gp hg ht (ap hg ht _),show rd (d_I64 x7) 0 (dlen (d_I64 x7))=r_I64 x7 from qh hg ht (ak hg ht _)];try rfl) (hF _ _ _ (yn hg ht hx8)) (.inr (by simp only[Go.Vs.X.fresh,Go.Vs.X.freshs,jg,eO,Bool.and_self,Trip.ds])) (nb rfl) ?_
  cbv;obtain⟨l3,hl3,h_2⟩:=ah h_2;try dsimp only at h_2
  refine ANew.mk (d_Trip l3) (dlen (d_Trip l3)) (by rw[←hl3];exact hG hg ht [(Trip.mk x8_Leg x8_Day)]) (by rw[←hl3];exact fG hg ht [(Trip.mk x8_Leg x8_Day)]) ?_;cbv;obtain⟨hc4,h_2⟩:=aj h_2;refine AStep.mk ⟨(uV hg ht (aQ hg ht _)),(iY hg ht (aQ hg ht _) (mU hg ht (aQ hg ht _)) hc4)⟩ ?_;cbv;obtain⟨l4,hl4,h_2⟩:=ah h_2;try dsimp only at h_2
  refine ANew.mk (d_Trip l4) (dlen (d_Trip l4)) (by rw[←hl4];exact oA hg ht (aQ hg ht _) (mU hg ht (aQ hg ht _))) (by rw[←hl4];exact mc hg ht (aQ hg ht _) (mU hg ht (aQ hg ht _))) ?_;cbv;obtain⟨hc2,h_2⟩:=aj h_2;refine AStep.mk hc2 ?_;cbv;obtain⟨x9,hx9,h_2⟩:=aD h_2;obtain⟨x9_From,x9_To,x9_Start,x9_Takes,x9_Days,x9_Room⟩:=x9;try dsimp only at h_2
  refine AGet.mk _ (aY hg ht hx9) ?_;cbv;refine AStep.mk (en ht (ap hg ht _)) ?_;cbv;obtain⟨x10,hx10,h_2⟩:=ah h_2;try dsimp only at h_2
  refine ACall.mk _ _ (by rw[show rd (d_S x2) 0 (dlen (d_S x2))=r_S x2 from gp hg ht (ap hg ht _)];try rfl) (hF _ _ _ (dV hg ht hx10)) (.inr rfl) (nb rfl) ?_
  cbv;obtain⟨hc3,h_2⟩:=aj h_2;refine AStep.mk hc3 ?_;cbv;obtain⟨x11,hx11,h_2⟩:=aD h_2;try dsimp only at h_2
  refine AGet.mk _ (bu hg ht hx11) ?_;cbv;try rw[hg] at h_2
  try rw[ht] at h_2
  refine⟨⟨(n2,x11,x10,l4,(wrap .i64 (sub v4 1))),h_2⟩,Wk.of [(0,some 0),(1,some 1),(2,some 339)] rfl rfl ?_ ?_,Nat.lt_succ_self _⟩
  ·cbv;all_goals exact⟨⟨_,rfl,rfl⟩,⟨_,rfl,rfl⟩,⟨_,rfl,rfl⟩,⟨_,rfl,rfl⟩,⟨_,rfl,rfl⟩,⟨_,rfl,rfl⟩,⟨_,rfl,rfl⟩,⟨_,rfl,rfl⟩,⟨_,rfl,rfl⟩,trivial⟩
  cbv;all_goals exact⟨⟨_,rfl,_,rfl,rfl,rfl,rfl,trivial⟩,⟨_,rfl,rfl⟩,⟨_,rfl,rfl⟩,trivial⟩
 rintro y2 hy2;replace hy2:=hy2.symm;subst hy2;try dsimp only[lr,lrL,lrp,aZ] at h
 cbv;obtain rfl:=Option.some.inj h;exact ARet.mk ⟨rfl,(aQ hg ht _)⟩ hX.symm
def ir15:J:=js [jq 4 (.mv (.k (.c (.n 6))))] [0,1] (js [jq 7 (.bsl 6 []),jm 5 7] [0,1,5] (.seq (js [jm 6 (ki 0)] [0,1,5,6] (.bl 0 (.seq (js [jm 8 6,jm 9 0,jq 10 (.len false 9),jb 11 .lss .i 8 10] [0,1,5,6,11] (.cond 11 .skip (.exit 0))) (.seq (.block 1 (js [jm 14 6,jb 15 .eql .i 14 (ki 0),jm 16 15,jv 17 16 (.mv 1),jv 18 16 (.mv 6),jv 19 16 (.bin .rem .i 18 (ki 8)),jv 20 16 (.bin .shr .i 17 19),jv 21 16 (.bin .and .i 20 (ki 1)),jv 22 16 (.bin .eql .i 21 (ki 1)),jq 23 (.pick 16 kt 22)] [0,1,5,6,23] (.cond 23 (.reg none [jm 24 5,jm 25 0,jm 26 6,ja 27 6 25 26,jl 28 6 27,jq 29 (.bsl 6 [28]),jq 30 (.app 6 56 true 24 29),jm 5 30] [0,1,5,6]) .skip))) (.reg none [jm 12 6,jb 13 .add .i 12 (ki 1),jm 6 13] [0,1,5,6]))))) (js [jm 31 5,jm 4 31] [4] .ret)))
def rv15:List RV:=[.t 4]
def dR (g:G) (t:TE) (a1:Int):List Scan→Int→List Scan→Option (List Scan)
 |[],v1,w1=>
  some w1
 |z1::ls1,v1,w1=>
  br (g.eq v1 0)
  (
   lP ([(Scan.mk z1.Thing z1.At z1.Kind z1.Place (Trip.mk z1.Trip.Leg z1.Trip.Day))]) fun(l2:List Scan)=>
   gd (((w1.length+l2.length)*56≤70368744177664))<|
   lP (w1++l2) fun(l3:List Scan)=>
   dR g t a1 ls1 (g.wrap .i64 (g.add v1 1)) l3)
  (
   gd (((0:Int)≤(g.rem v1 8)))<|
   br (g.eq (g.band .i64 (g.shr .i64 a1 (g.rem v1 8)) 1) 1)
   (
    lP ([(Scan.mk z1.Thing z1.At z1.Kind z1.Place (Trip.mk z1.Trip.Leg z1.Trip.Day))]) fun(l4:List Scan)=>
    gd (((w1.length+l4.length)*56≤70368744177664))<|
    lP (w1++l4) fun(l5:List Scan)=>
    dR g t a1 ls1 (g.wrap .i64 (g.add v1 1)) l5)
   (
    dR g t a1 ls1 (g.wrap .i64 (g.add v1 1)) w1))
def oW (g:G) (t:TE) (a0:List Scan) (a1:Int):Option (List Scan):=
 lP ([]) fun(l1:List Scan)=>
 cl (dR g t a1 a0 0 l1) fun y1=>
 some y1
theorem vC {g:G} {t:TE} {a0:List Scan} {a1:Int} {r:List Scan} (hg:g=G.real) (ht:t=TE.real) (h:oW g t a0 a1=some r):Fn Tryz.prog 15 [.c (.s 6 (t.r_Scan a0)),.c (.v (.int .i64 a1))] (.c (.o 6 (t.d_Scan r))):=by
 obtain⟨X,hX⟩:=aC (.c (.o 6 (t.d_Scan r)):X);rw[←hX];refine ay (rvs:=rv15) (j:=ir15) Tryz.func15 rfl (by kernel_rfl) (nb rfl) (by kernel_rfl) ac ?_;intro g2 F hg2 hF;obtain rfl:g2=g:=hg2.unique.trans hg.symm;clear hg2;obtain⟨wrap,lt,_,eq,_,rem,band,_,_,_,shr,_,_,add,_,_,_,_,_,_,_,llen,_,_,dlen⟩:=g2;obtain⟨_,_,r_Scan,d_Scan⟩:=t
 unfold oW at h;try dsimp only at h
 cbv;obtain⟨l1,hl1,h⟩:=ah h;try dsimp only at h
 refine ANew.mk (d_Scan l1) (dlen (d_Scan l1)) (by rw[←hl1];exact cG hg ht []) (by rw[←hl1];exact bV hg ht []) ?_;cbv;obtain⟨o1,ho1,h⟩:=af h;try dsimp only at h
 try rw[hg] at ho1
 try rw[ht] at ho1
 refine ABL.mk {p:Nat×Int×List Scan//p.1≤a0.length∧p.2.1=((p.1:Nat):Int)∧dR G.real TE.real a1 (List.drop p.1 a0) p.2.1 p.2.2=some o1} (fun⟨⟨k1,v1,w1⟩,_⟩=>({sl:=[(0,.c (.r (.s 6 (r_Scan a0)))),(1,.c (.r (.v (.int .i64 a1)))),(5,.c (.f 0 6 0 (dlen (d_Scan w1)))),(6,.c (.r (.v (.int .i64 v1))))],tab:=[(0,some (.arr 6 (d_Scan w1)))]}:St)) 1 (fun p=>a0.length-p.1.1) ⟨(0,0,l1),Nat.zero_le _,rfl,ho1⟩ (List Scan) (fun y1=>({sl:=[(5,.c (.f 0 6 0 (dlen (d_Scan y1))))],tab:=[(0,some (.arr 6 (d_Scan y1)))]}:St)) 1 (fun y=>o1=y) ?_ ?_ ?_
 ·refine Wk.of [(0,some 16)] rfl rfl ?_ ?_
  ·cbv;all_goals exact⟨⟨_,rfl,rfl⟩,⟨_,rfl,rfl⟩,⟨_,rfl,rfl⟩,⟨_,rfl,rfl⟩,trivial⟩
  cbv;all_goals exact⟨⟨_,rfl,rfl⟩,trivial⟩
 ·rintro⟨⟨k1,v1,w1⟩,hk1,hi1,h_1⟩ hq1;have hm1:=(hq1.1 0 _ _ rfl);try dsimp only at hk1 hi1 h_1
  clear hq1;cbv
  by_cases hc1_:k1<a0.length
  ·have hb1:lt v1 (llen (r_Scan a0))=true:=jh hg ht hi1 hc1_;have hs1:=mN hg ht hi1 hc1_ hm1;obtain⟨z1,hz1⟩:=aG hc1_;rw[ax hz1] at h_1;rw[dR] at h_1;obtain⟨z1_Thing,z1_At,z1_Kind,z1_Place,⟨z1_Trip_Leg,z1_Trip_Day⟩⟩:=z1;try rw[←hg] at h_1
   try rw[←ht] at h_1
   try dsimp only at h_1
   rw[hb1];cbv
   cases hb2:(eq v1 0)
   rotate_left
   ·rw[ab hb2] at h_1;cbv;iterate 6 try(rw[hb2];cbv)
    refine AStep.mk (ez hi1) ?_;cbv;refine AGet.mk _ (iZ hg ht hi1 hz1) ?_;cbv;obtain⟨l2,hl2,h_1⟩:=ah h_1;try dsimp only at h_1
    refine ANew.mk (d_Scan l2) (dlen (d_Scan l2)) (by rw[←hl2];exact cG hg ht [(Scan.mk z1_Thing z1_At z1_Kind z1_Place (Trip.mk z1_Trip_Leg z1_Trip_Day))]) (by rw[←hl2];exact bV hg ht [(Scan.mk z1_Thing z1_At z1_Kind z1_Place (Trip.mk z1_Trip_Leg z1_Trip_Day))]) ?_;cbv;obtain⟨hc1,h_1⟩:=aj h_1;refine AStep.mk ⟨⟨rfl,(ao hg ht _)⟩,(cX hg ht (ao hg ht _) rfl hc1)⟩ ?_;cbv;obtain⟨l3,hl3,h_1⟩:=ah h_1;try dsimp only at h_1
    refine ANew.mk (d_Scan l3) (dlen (d_Scan l3)) (by rw[←hl3];exact ff hg ht (ao hg ht _) rfl) (by rw[←hl3];exact ek hg ht (ao hg ht _) rfl) ?_;cbv;try rw[hg] at h_1
    try rw[ht] at h_1
    refine⟨⟨(k1+1,(wrap .i64 (add v1 1)),l3),hc1_,hs1,h_1⟩,Wk.of [(0,some 321)] rfl rfl ?_ ?_,aK hc1_⟩
    ·cbv;all_goals exact⟨⟨_,rfl,rfl⟩,⟨_,rfl,rfl⟩,⟨_,rfl,rfl⟩,⟨_,rfl,rfl⟩,trivial⟩
    cbv;all_goals exact⟨⟨_,rfl,rfl⟩,trivial⟩
   rw[aa hb2] at h_1;cbv;iterate 2 try(rw[hb2];cbv)
   refine AStep.mk (by decide) ?_;cbv;try(rw[hb2];cbv)
   obtain⟨hc2,h_1⟩:=aj h_1;refine AStep.mk hc2 ?_;cbv;iterate 3 try(rw[hb2];cbv)
   cases hb3:(eq (band .i64 (shr .i64 a1 (rem v1 8)) 1) 1)
   ·rw[aa hb3] at h_1;cbv;try rw[hg] at h_1
    try rw[ht] at h_1
    refine⟨⟨(k1+1,(wrap .i64 (add v1 1)),w1),hc1_,hs1,h_1⟩,Wk.of [(0,some 0)] rfl rfl ?_ ?_,aK hc1_⟩
    ·cbv;all_goals exact⟨⟨_,rfl,rfl⟩,⟨_,rfl,rfl⟩,⟨_,rfl,rfl⟩,⟨_,rfl,rfl⟩,trivial⟩
    cbv;all_goals exact⟨⟨_,rfl,rfl⟩,trivial⟩
   rw[ab hb3] at h_1;cbv;refine AStep.mk (ez hi1) ?_;cbv;refine AGet.mk _ (iZ hg ht hi1 hz1) ?_;cbv;obtain⟨l4,hl4,h_1⟩:=ah h_1;try dsimp only at h_1
   refine ANew.mk (d_Scan l4) (dlen (d_Scan l4)) (by rw[←hl4];exact cG hg ht [(Scan.mk z1_Thing z1_At z1_Kind z1_Place (Trip.mk z1_Trip_Leg z1_Trip_Day))]) (by rw[←hl4];exact bV hg ht [(Scan.mk z1_Thing z1_At z1_Kind z1_Place (Trip.mk z1_Trip_Leg z1_Trip_Day))]) ?_;cbv;obtain⟨hc3,h_1⟩:=aj h_1;refine AStep.mk ⟨⟨rfl,(ao hg ht _)⟩,(cX hg ht (ao hg ht _) rfl hc3)⟩ ?_;cbv;obtain⟨l5,hl5,h_1⟩:=ah h_1;try dsimp only at h_1
   refine ANew.mk (d_Scan l5) (dlen (d_Scan l5)) (by rw[←hl5];exact ff hg ht (ao hg ht _) rfl) (by rw[←hl5];exact ek hg ht (ao hg ht _) rfl) ?_;cbv;try rw[hg] at h_1
   try rw[ht] at h_1
   refine⟨⟨(k1+1,(wrap .i64 (add v1 1)),l5),hc1_,hs1,h_1⟩,Wk.of [(0,some 321)] rfl rfl ?_ ?_,aK hc1_⟩
   ·cbv;all_goals exact⟨⟨_,rfl,rfl⟩,⟨_,rfl,rfl⟩,⟨_,rfl,rfl⟩,⟨_,rfl,rfl⟩,trivial⟩
   cbv;all_goals exact⟨⟨_,rfl,rfl⟩,trivial⟩
  have hb1:lt v1 (llen (r_Scan a0))=false:=iT hg ht hi1 hc1_;rw[List.drop_of_length_le (Nat.le_of_not_lt hc1_)] at h_1;rw[dR] at h_1;try rw[←hg] at h_1
  try rw[←ht] at h_1
  try dsimp only at h_1
  rw[hb1];cbv;refine⟨w1,Wk.of [(0,some 0)] rfl rfl ?_ ?_,(Option.some.inj h_1).symm⟩
  ·cbv;all_goals exact⟨⟨_,rfl,rfl⟩,trivial⟩
  cbv;all_goals exact⟨⟨_,rfl,rfl⟩,trivial⟩
 rintro y1 hy1;replace hy1:=hy1.symm;subst hy1;try dsimp only[lr,lrL,lrp,aZ] at h
 cbv;obtain rfl:=Option.some.inj h;exact ARet.mk ⟨rfl,(ao hg ht _)⟩ hX.symm
def Ht:J:=js [jq 3 (.box 0),jm 6 kf] [1,2,3] (js [jl 7 3 3,jc 8 113 [7],jm 9 8,ju 10 9 (.ld true 3 3),ju 11 9 (.mv 1),ju 12 9 (.mv 2),ju 13 9 (.call 153 true [10,11,12]),jq 14 (.pick 9 13 kf),jm 6 14] [6] .ret)
def GV:List RV:=[.t 6]
def oe (g:G) (t:TE) (a0:Network) (a1:Int) (a2:Int):Option Bool:=
 cl (dW g t a0) fun x1=>
 br x1
 (
  cl (hO g t a0 a1 a2) fun x2=>
  some x2)
 (
  some false)
theorem yz {g:G} {t:TE} {a0:Network} {a1:Int} {a2:Int} {r:Bool} (hg:g=G.real) (ht:t=TE.real) (h:oe g t a0 a1 a2=some r):Fn Tryz.prog 154 [.g (Network.rs t a0),.c (.v (.int .i64 a1)),.c (.v (.int .i64 a2))] (.c (.r (.v (.bool r)))):=by
 obtain⟨X,hX⟩:=aC (.c (.r (.v (.bool r))):X);rw[←hX];refine ay (rvs:=GV) (j:=Ht) Tryz.func154 rfl (by kernel_rfl) (nb rfl) (by kernel_rfl) ac ?_;intro g2 F hg2 hF;obtain rfl:g2=g:=hg2.unique.trans hg.symm;clear hg2;obtain⟨_⟩:=g2;obtain⟨_⟩:=t
 obtain⟨a0_Legs,a0_Off,a0_Change⟩:=a0;unfold oe at h;try dsimp only at h
 cbv;obtain⟨x1,hx1,h⟩:=af h;try dsimp only at h
 refine ACall.mk _ _ rfl (hF _ _ _ (mA hg ht hx1)) (.inl rfl) (nb rfl) ?_;cbv
 cases hb1:x1
 ·rw[aa hb1] at h;cbv;iterate 4 try(rw[hb1];cbv)
  obtain rfl:=Option.some.inj h;exact ARet.mk trivial hX.symm
 rw[ab hb1] at h;cbv;iterate 3 try(rw[hb1];cbv)
 obtain⟨x2,hx2,h⟩:=af h;try dsimp only at h
 refine ACall.mk _ _ rfl (hF _ _ _ (qH hg ht hx2)) (.inl rfl) (nb rfl) ?_;cbv;try(rw[hb1];cbv)
 obtain rfl:=Option.some.inj h;exact ARet.mk trivial hX.symm
def Hr:J:=js [jq 2 (.box 0),jq 3 (.box 1),jm 4 kf] [2,3] (js [jl 5 3 2,jf 6 0 3,jk 7 6,jf 8 1 3,jk 9 8,jc 10 154 [5,7,9],jm 4 10] [4] .ret)
def Hk:List RV:=[.t 4]
def jL (g:G) (t:TE) (a0:Network) (a1:Trip):Option Bool:=
 cl (oe g t a0 a1.Leg a1.Day) fun x1=>
 some x1
theorem rh {g:G} {t:TE} {a0:Network} {a1:Trip} {r:Bool} (hg:g=G.real) (ht:t=TE.real) (h:jL g t a0 a1=some r):Fn Tryz.prog 119 [.g (Network.rs t a0),.g (Trip.rs t a1)] (.c (.r (.v (.bool r)))):=by
 obtain⟨X,hX⟩:=aC (.c (.r (.v (.bool r))):X);rw[←hX];refine ay (rvs:=Hk) (j:=Hr) Tryz.func119 rfl (by kernel_rfl) (nb rfl) (by kernel_rfl) ac ?_;intro g2 F hg2 hF;obtain rfl:g2=g:=hg2.unique.trans hg.symm;clear hg2;obtain⟨_⟩:=g2;obtain⟨_⟩:=t
 obtain⟨a0_Legs,a0_Off,a0_Change⟩:=a0;obtain⟨a1_Leg,a1_Day⟩:=a1;unfold jL at h;try dsimp only at h
 cbv;obtain⟨x1,hx1,h⟩:=af h;try dsimp only at h
 refine ACall.mk _ _ rfl (hF _ _ _ (yz hg ht hx1)) (.inl rfl) (nb rfl) ?_;cbv;obtain rfl:=Option.some.inj h;exact ARet.mk trivial hX.symm
def ir62:J:=js [jq 2 (.box 0),jq 3 (.box 1),jm 4 (ki 0)] [2,3] (.seq (js [jl 5 3 2,jl 6 2 3,jc 7 119 [5,6],jq 8 (.not 7)] [2,3,8] (.cond 8 (js [jq 4 (.mv (.k (V.i (-1))))] [4] .ret) .skip)) (js [jl 9 3 2,jl 10 2 3,jc 11 120 [9,10],jm 4 11] [4] .ret))
def rv62:List RV:=[.t 4]
def gz (g:G) (t:TE) (a0:Network) (a1:Trip):Option Int:=
 cl (jL g t a0 a1) fun x1=>
 br x1
 (
  cl (ec g t a0 a1) fun x2=>
  some x2)
 (
  some (-1))
theorem og {g:G} {t:TE} {a0:Network} {a1:Trip} {r:Int} (hg:g=G.real) (ht:t=TE.real) (h:gz g t a0 a1=some r):Fn Tryz.prog 62 [.g (Network.rs t a0),.g (Trip.rs t a1)] (.c (.r (.v (.int .i64 r)))):=by
 obtain⟨X,hX⟩:=aC (.c (.r (.v (.int .i64 r))):X);rw[←hX];refine ay (rvs:=rv62) (j:=ir62) Tryz.func62 rfl (by kernel_rfl) (nb rfl) (by kernel_rfl) ac ?_;intro g2 F hg2 hF;obtain rfl:g2=g:=hg2.unique.trans hg.symm;clear hg2;obtain⟨_⟩:=g2;obtain⟨_⟩:=t
 obtain⟨a0_Legs,a0_Off,a0_Change⟩:=a0;obtain⟨a1_Leg,a1_Day⟩:=a1;unfold gz at h;try dsimp only at h
 cbv;obtain⟨x1,hx1,h⟩:=af h;try dsimp only at h
 refine ACall.mk _ _ rfl (hF _ _ _ (rh hg ht hx1)) (.inl rfl) (nb rfl) ?_;cbv
 cases hb1:x1
 ·rw[aa hb1] at h;cbv;obtain rfl:=Option.some.inj h;exact ARet.mk trivial hX.symm
 rw[ab hb1] at h;cbv;obtain⟨x2,hx2,h⟩:=af h;try dsimp only at h
 refine ACall.mk _ _ rfl (hF _ _ _ (kp hg ht hx2)) (.inl rfl) (nb rfl) ?_;cbv;obtain rfl:=Option.some.inj h;exact ARet.mk trivial hX.symm
def ir63:J:=js [jq 2 (.box 0),jq 3 (.box 1),jm 4 (ki 0)] [2,3] (.seq (js [jl 5 3 2,jl 6 2 3,jc 7 119 [5,6],jq 8 (.not 7)] [2,3,8] (.cond 8 (js [jq 4 (.mv (.k (V.i (-1))))] [4] .ret) .skip)) (js [jl 9 3 2,jl 10 2 3,jc 11 118 [9,10],jm 4 11] [4] .ret))
def rv63:List RV:=[.t 4]
def jN (g:G) (t:TE) (a0:Network) (a1:Trip):Option Int:=
 cl (jL g t a0 a1) fun x1=>
 br x1
 (
  cl (hJ g t a0 a1) fun x2=>
  some x2)
 (
  some (-1))
theorem sk {g:G} {t:TE} {a0:Network} {a1:Trip} {r:Int} (hg:g=G.real) (ht:t=TE.real) (h:jN g t a0 a1=some r):Fn Tryz.prog 63 [.g (Network.rs t a0),.g (Trip.rs t a1)] (.c (.r (.v (.int .i64 r)))):=by
 obtain⟨X,hX⟩:=aC (.c (.r (.v (.int .i64 r))):X);rw[←hX];refine ay (rvs:=rv63) (j:=ir63) Tryz.func63 rfl (by kernel_rfl) (nb rfl) (by kernel_rfl) ac ?_;intro g2 F hg2 hF;obtain rfl:g2=g:=hg2.unique.trans hg.symm;clear hg2;obtain⟨_⟩:=g2;obtain⟨_⟩:=t
 obtain⟨a0_Legs,a0_Off,a0_Change⟩:=a0;obtain⟨a1_Leg,a1_Day⟩:=a1;unfold jN at h;try dsimp only at h
 cbv;obtain⟨x1,hx1,h⟩:=af h;try dsimp only at h
 refine ACall.mk _ _ rfl (hF _ _ _ (rh hg ht hx1)) (.inl rfl) (nb rfl) ?_;cbv
 cases hb1:x1
 ·rw[aa hb1] at h;cbv;obtain rfl:=Option.some.inj h;exact ARet.mk trivial hX.symm
 rw[ab hb1] at h;cbv;obtain⟨x2,hx2,h⟩:=af h;try dsimp only at h
 refine ACall.mk _ _ rfl (hF _ _ _ (m8 hg ht hx2)) (.inl rfl) (nb rfl) ?_;cbv;obtain rfl:=Option.some.inj h;exact ARet.mk trivial hX.symm
def ir16:J:=js [jq 5 (.box 0),jq 10 (.mv (.k (.c (.n 6))))] [1,2,3,4,5] (js [jm 13 2,jm 14 4,jm 15 3,jq 16 (.bld [.r (.v (.int .i64 0)),.r (.v (.int .i64 0)),.r (.v (.int .i64 0)),.r (.v (.string .empty)),.r (.v (.int .i64 0)),.r (.v (.int .i64 0))] [(0,1,13),(1,1,14),(2,1,(ki 1)),(3,1,15)]),jq 17 (.bsl 6 [16]),jm 11 17] [1,2,5,11] (.seq (js [jm 12 (ki 0)] [1,2,5,11,12] (.bl 0 (.seq (js [jm 18 12,jm 19 1,jq 20 (.len false 19),jb 21 .lss .i 18 20] [1,2,5,11,12,21] (.cond 21 .skip (.exit 0))) (.seq (.block 1 (.seq (.reg (some [[],[],[],[],[],[3,4],[3,4,5],[2,3,4,5,6],[],[],[8,9],[8,9,10],[1,2,3,4,5,6,7,8,9,10,11],[1,2,3,4,5,6,7,8,9,10,11,12],[0,1,2,3,4,5,6,7,8,9,10,11,12,13],[0,1,2,3,4,5,6,7,8,9,10,11,12,13,14]]) [jm 24 11,jm 25 2,jl 26 3 5,jm 27 1,jm 28 12,ja 29 2 27 28,jl 30 2 29,jc 31 62 [26,30],jm 32 1,jm 33 12,ja 34 2 32 33,jl 35 2 34,jq 36 (.bld [.r (.v (.int .i64 0)),.r (.v (.int .i64 0)),.r (.v (.int .i64 0)),.r (.v (.string .empty)),.r (.v (.int .i64 0)),.r (.v (.int .i64 0))] [(0,1,25),(1,1,31),(2,1,(ki 3)),(4,2,35)]),jq 37 (.bsl 6 [36]),jq 38 (.app 6 56 true 24 37),jm 11 38] [1,2,5,11,12]) (.reg (some [[],[],[],[],[],[3,4],[3,4,5],[2,3,4,5,6],[],[],[8,9],[8,9,10],[1,2,3,4,5,6,7,8,9,10,11],[1,2,3,4,5,6,7,8,9,10,11,12],[0,1,2,3,4,5,6,7,8,9,10,11,12,13],[0,1,2,3,4,5,6,7,8,9,10,11,12,13,14]]) [jm 39 11,jm 40 2,jl 41 3 5,jm 42 1,jm 43 12,ja 44 2 42 43,jl 45 2 44,jc 46 63 [41,45],jm 47 1,jm 48 12,ja 49 2 47 48,jl 50 2 49,jq 51 (.bld [.r (.v (.int .i64 0)),.r (.v (.int .i64 0)),.r (.v (.int .i64 0)),.r (.v (.string .empty)),.r (.v (.int .i64 0)),.r (.v (.int .i64 0))] [(0,1,40),(1,1,46),(2,1,(ki 2)),(4,2,50)]),jq 52 (.bsl 6 [51]),jq 53 (.app 6 56 true 39 52),jm 11 53] [1,2,5,11,12]))) (.reg none [jm 22 12,jb 23 .add .i 22 (ki 1),jm 12 23] [1,2,5,11,12]))))) (js [jm 54 11,jm 10 54] [10] .ret)))
def rv16:List RV:=[.t 10]
def eE (g:G) (t:TE) (a0:Network) (a2:Int):List Trip→List Scan→Option (List Scan)
 |[],w1=>
  some w1
 |z1::ls1,w1=>
  cl (gz g t a0 z1) fun x1=>
  lP ([(Scan.mk a2 x1 3 ByteArray.empty z1)]) fun(l2:List Scan)=>
  gd (((w1.length+l2.length)*56≤70368744177664))<|
  lP (w1++l2) fun(l3:List Scan)=>
  cl (jN g t a0 z1) fun x2=>
  lP ([(Scan.mk a2 x2 2 ByteArray.empty z1)]) fun(l4:List Scan)=>
  gd (((l3.length+l4.length)*56≤70368744177664))<|
  lP (l3++l4) fun(l5:List Scan)=>
  eE g t a0 a2 ls1 l5
def kO (g:G) (t:TE) (a0:Network) (a1:List Trip) (a2:Int) (a3:ByteArray) (a4:Int):Option (List Scan):=
 lP ([(Scan.mk a2 a4 1 a3 (Trip.mk 0 0))]) fun(l1:List Scan)=>
 cl (eE g t a0 a2 a1 l1) fun y1=>
 some y1
theorem o8 {g:G} {t:TE} {a0:Network} {a1:List Trip} {a2:Int} {a3:ByteArray} {a4:Int} {r:List Scan} (hg:g=G.real) (ht:t=TE.real) (h:kO g t a0 a1 a2 a3 a4=some r):Fn Tryz.prog 16 [.g (Network.rs t a0),.c (.s 2 (t.r_Trip a1)),.c (.v (.int .i64 a2)),.c (.v (.string a3)),.c (.v (.int .i64 a4))] (.c (.o 6 (t.d_Scan r))):=by
 obtain⟨X,hX⟩:=aC (.c (.o 6 (t.d_Scan r)):X);rw[←hX];refine ay (rvs:=rv16) (j:=ir16) Tryz.func16 rfl (by kernel_rfl) (nb rfl) (by kernel_rfl) ac ?_;intro g2 F hg2 hF;obtain rfl:g2=g:=hg2.unique.trans hg.symm;clear hg2;obtain⟨wrap,lt,_,_,_,_,_,_,_,_,_,_,_,add,_,_,_,_,_,_,_,llen,_,_,dlen⟩:=g2;obtain⟨_,_,_,d_Scan,r_Leg,_,r_I64,_,r_Trip⟩:=t
 obtain⟨a0_Legs,a0_Off,a0_Change⟩:=a0;unfold kO at h;try dsimp only at h
 cbv;obtain⟨l1,hl1,h⟩:=ah h;try dsimp only at h
 refine ANew.mk (d_Scan l1) (dlen (d_Scan l1)) (by rw[←hl1];exact cG hg ht [(Scan.mk a2 a4 1 a3 (Trip.mk 0 0))]) (by rw[←hl1];exact bV hg ht [(Scan.mk a2 a4 1 a3 (Trip.mk 0 0))]) ?_;cbv;obtain⟨o1,ho1,h⟩:=af h;try dsimp only at h
 try rw[hg] at ho1
 try rw[ht] at ho1
 refine ABL.mk {p:Nat×Int×List Scan//p.1≤a1.length∧p.2.1=((p.1:Nat):Int)∧eE G.real TE.real (Network.mk a0_Legs a0_Off a0_Change) a2 (List.drop p.1 a1) p.2.2=some o1} (fun⟨⟨k1,v1,w1⟩,_⟩=>({sl:=[(1,.c (.r (.s 2 (r_Trip a1)))),(2,.c (.r (.v (.int .i64 a2)))),(5,.c (.p 0 3 0 0)),(11,.c (.f 1 6 0 (dlen (d_Scan w1)))),(12,.c (.r (.v (.int .i64 v1))))],tab:=[(0,some (.foc 3 [] [.r (.s 6 (r_Leg a0_Legs)),.r (.s 1 (r_I64 a0_Off)),.r (.v (.int .i64 a0_Change))] [])),(1,some (.arr 6 (d_Scan w1)))]}:St)) 2 (fun p=>a1.length-p.1.1) ⟨(0,0,l1),Nat.zero_le _,rfl,ho1⟩ (List Scan) (fun y1=>({sl:=[(11,.c (.f 0 6 0 (dlen (d_Scan y1))))],tab:=[(0,some (.arr 6 (d_Scan y1)))]}:St)) 1 (fun y=>o1=y) ?_ ?_ ?_
 ·refine Wk.of [(0,some 0),(1,some 96)] rfl rfl ?_ ?_
  ·cbv;all_goals exact⟨⟨_,rfl,rfl⟩,⟨_,rfl,rfl⟩,⟨_,rfl,rfl⟩,⟨_,rfl,rfl⟩,⟨_,rfl,rfl⟩,trivial⟩
  cbv;all_goals exact⟨⟨_,rfl,_,rfl,rfl,rfl,rfl,trivial⟩,⟨_,rfl,rfl⟩,trivial⟩
 ·rintro⟨⟨k1,v1,w1⟩,hk1,hi1,h_1⟩ hq1;have hm1:=(hq1.1 1 _ _ rfl);try dsimp only at hk1 hi1 h_1
  clear hq1;cbv
  by_cases hc1_:k1<a1.length
  ·have hb1:lt v1 (llen (r_Trip a1))=true:=gW hg ht hi1 hc1_;have hs1:=kj hg ht hi1 hc1_ hm1;obtain⟨z1,hz1⟩:=aG hc1_;rw[ax hz1] at h_1;rw[eE] at h_1;obtain⟨z1_Leg,z1_Day⟩:=z1;try rw[←hg] at h_1
   try rw[←ht] at h_1
   try dsimp only at h_1
   rw[hb1];cbv;refine AStep.mk (ez hi1) ?_;cbv;refine AGet.mk _ (cW hg ht hi1 hz1) ?_;cbv;obtain⟨x1,hx1,h_1⟩:=af h_1;try dsimp only at h_1
   refine ACall.mk _ _ rfl (hF _ _ _ (og hg ht hx1)) (.inl rfl) (nb rfl) ?_;cbv;refine AStep.mk (ez hi1) ?_;cbv;refine AGet.mk _ (cW hg ht hi1 hz1) ?_;cbv;obtain⟨l2,hl2,h_1⟩:=ah h_1;try dsimp only at h_1
   refine ANew.mk (d_Scan l2) (dlen (d_Scan l2)) (by rw[←hl2];exact cG hg ht [(Scan.mk a2 x1 3 ByteArray.empty (Trip.mk z1_Leg z1_Day))]) (by rw[←hl2];exact bV hg ht [(Scan.mk a2 x1 3 ByteArray.empty (Trip.mk z1_Leg z1_Day))]) ?_;cbv;obtain⟨hc2,h_1⟩:=aj h_1;refine AStep.mk ⟨⟨rfl,(ao hg ht _)⟩,(cX hg ht (ao hg ht _) rfl hc2)⟩ ?_;cbv;obtain⟨l3,hl3,h_1⟩:=ah h_1;try dsimp only at h_1
   refine ANew.mk (d_Scan l3) (dlen (d_Scan l3)) (by rw[←hl3];exact ff hg ht (ao hg ht _) rfl) (by rw[←hl3];exact ek hg ht (ao hg ht _) rfl) ?_;cbv;refine AStep.mk (ez hi1) ?_;cbv;refine AGet.mk _ (cW hg ht hi1 hz1) ?_;cbv;obtain⟨x2,hx2,h_1⟩:=af h_1;try dsimp only at h_1
   refine ACall.mk _ _ rfl (hF _ _ _ (sk hg ht hx2)) (.inl rfl) (nb rfl) ?_;cbv;refine AStep.mk (ez hi1) ?_;cbv;refine AGet.mk _ (cW hg ht hi1 hz1) ?_;cbv;obtain⟨l4,hl4,h_1⟩:=ah h_1;try dsimp only at h_1
   refine ANew.mk (d_Scan l4) (dlen (d_Scan l4)) (by rw[←hl4];exact cG hg ht [(Scan.mk a2 x2 2 ByteArray.empty (Trip.mk z1_Leg z1_Day))]) (by rw[←hl4];exact bV hg ht [(Scan.mk a2 x2 2 ByteArray.empty (Trip.mk z1_Leg z1_Day))]) ?_;cbv;obtain⟨hc1,h_1⟩:=aj h_1;refine AStep.mk ⟨⟨rfl,(ao hg ht _)⟩,(cX hg ht (ao hg ht _) rfl hc1)⟩ ?_;cbv;obtain⟨l5,hl5,h_1⟩:=ah h_1;try dsimp only at h_1
   refine ANew.mk (d_Scan l5) (dlen (d_Scan l5)) (by rw[←hl5];exact ff hg ht (ao hg ht _) rfl) (by rw[←hl5];exact ek hg ht (ao hg ht _) rfl) ?_;cbv;try rw[hg] at h_1
   try rw[ht] at h_1
   refine⟨⟨(k1+1,(wrap .i64 (add v1 1)),l5),hc1_,hs1,h_1⟩,Wk.of [(0,some 0),(1,some 546)] rfl rfl ?_ ?_,aK hc1_⟩
   ·cbv;all_goals exact⟨⟨_,rfl,rfl⟩,⟨_,rfl,rfl⟩,⟨_,rfl,rfl⟩,⟨_,rfl,rfl⟩,⟨_,rfl,rfl⟩,trivial⟩
   cbv;all_goals exact⟨⟨_,rfl,_,rfl,rfl,rfl,rfl,trivial⟩,⟨_,rfl,rfl⟩,trivial⟩
  have hb1:lt v1 (llen (r_Trip a1))=false:=gk hg ht hi1 hc1_;rw[List.drop_of_length_le (Nat.le_of_not_lt hc1_)] at h_1;rw[eE] at h_1;try rw[←hg] at h_1
  try rw[←ht] at h_1
  try dsimp only at h_1
  rw[hb1];cbv;refine⟨w1,Wk.of [(0,some 1)] rfl rfl ?_ ?_,(Option.some.inj h_1).symm⟩
  ·cbv;all_goals exact⟨⟨_,rfl,rfl⟩,trivial⟩
  cbv;all_goals exact⟨⟨_,rfl,rfl⟩,trivial⟩
 rintro y1 hy1;replace hy1:=hy1.symm;subst hy1;try dsimp only[lr,lrL,lrp,aZ] at h
 cbv;obtain rfl:=Option.some.inj h;exact ARet.mk ⟨rfl,(ao hg ht _)⟩ hX.symm
def ir17:J:=js [jm 4 (ki 0)] [0,1] (.seq (js [jm 5 1,jm 6 0,jq 7 (.len false 6),jb 8 .geq .i 5 7] [0,1,8] (.cond 8 (js [jm 4 (ki 0)] [4] .ret) .skip)) (js [jm 9 0,jm 10 1,ja 11 1 9 10,jk 12 11,jq 13 (.cvt .i64 12),jm 4 13] [4] .ret))
def rv17:List RV:=[.t 4]
def sR (g:G) (t:TE) (a0:List Int) (a1:Int):Option Int:=
 br (g.le (g.llen (t.r_U8 a0)) a1)
 (
  some 0)
 (
  gd (((0:Int)≤a1))<|
  gt a0 (g.nat a1) fun x1=>
  some (g.wrap .i64 x1))
theorem rj {g:G} {t:TE} {a0:List Int} {a1:Int} {r:Int} (hg:g=G.real) (ht:t=TE.real) (h:sR g t a0 a1=some r):Fn Tryz.prog 17 [.c (.s 1 (t.r_U8 a0)),.c (.v (.int .i64 a1))] (.c (.r (.v (.int .i64 r)))):=by
 obtain⟨X,hX⟩:=aC (.c (.r (.v (.int .i64 r))):X);rw[←hX];refine ay (rvs:=rv17) (j:=ir17) Tryz.func17 rfl (by kernel_rfl) (nb rfl) (by kernel_rfl) ac ?_;intro g2 F hg2 hF;obtain rfl:g2=g:=hg2.unique.trans hg.symm;clear hg2;obtain⟨_,_,le,_,_,_,_,_,_,_,_,_,_,_,_,_,_,_,_,_,_,llen⟩:=g2;obtain⟨r_U8⟩:=t
 unfold sR at h;try dsimp only at h
 cbv
 cases hb1:(le (llen (r_U8 a0)) a1)
 rotate_left
 ·rw[ab hb1] at h;cbv;obtain rfl:=Option.some.inj h;exact ARet.mk trivial hX.symm
 rw[aa hb1] at h;cbv;obtain⟨hc1,h⟩:=aj h;refine AStep.mk hc1 ?_;cbv;obtain⟨x1,hx1,h⟩:=aD h;try dsimp only at h
 refine AGet.mk _ (rV hg ht hx1) ?_;cbv;obtain rfl:=Option.some.inj h;exact ARet.mk trivial hX.symm
end Go.Vs
namespace Go.Vs
open Go.IntWalk
theorem Cy {a b:ByteArray} (h:bOf a=bOf b):a=b:=by
 have:=congrArg sOf h
 rwa [za,za] at this
instance memD (x:ByteArray):∀l:List ByteArray,Decidable (x∈l)
 |[]=>.isFalse (by simp)
 |y::l=>match decEq x y,memD x l with
  |.isTrue h,_=>.isTrue (by simp[h])
  |.isFalse h,.isTrue h2=>.isTrue (by simp[h2])
  |.isFalse h,.isFalse h2=>.isFalse (by simp[h,h2])
theorem fE (a b:ByteArray):G.real.seq a b=decide (a=b):=by
 rw[G3,Lib.toList_data,Lib.toList_data]
 by_cases h:a=b
 ·subst h;simp
 ·have:¬a.data.toList=b.data.toList:=fun e=>h (Cy e)
  rw[decide_eq_false h]
  exact beq_false_of_ne this
def bLt (a b:ByteArray):Prop:=bOf a<bOf b
instance (a b:ByteArray):Decidable (bLt a b):=inferInstanceAs (Decidable (bOf a<bOf b))
theorem ES (a b:ByteArray):G.real.slt a b=decide (bLt a b):=by
 show Op.bytesLess a.toList b.toList=_
 rw[Go.Proofs.bytesLess_eq,Lib.toList_data,Lib.toList_data]
 rfl
theorem mO (a:ByteArray):¬bLt a a:=List.lt_irrefl _
theorem tT {a b c:ByteArray} (h1:bLt a b) (h2:bLt b c):bLt a c:=List.lt_trans h1 h2
theorem yO (a b:ByteArray):bLt a b∨a=b∨bLt b a:=by
 by_cases h1:bLt a b
 ·exact .inl h1
 ·by_cases h2:bLt b a
  ·exact .inr (.inr h2)
  ·refine .inr (.inl (Cy ?_))
   exact List.le_antisymm (fun h=>h2 h) (fun h=>h1 h)
theorem rH:∀{l m:List ByteArray},l.Pairwise bLt→m.Pairwise bLt→(∀x,x∈l↔x∈m)→l=m
 |[],[],_,_,_=>rfl
 |[],y::m,_,_,h=>by have:=(h y).2 (by simp);simp at this
 |x::l,[],_,_,h=>by have:=(h x).1 (by simp);simp at this
 |x::l,y::m,hl,hm,h=>by
  obtain⟨l1,l2⟩:=List.pairwise_cons.1 hl
  obtain⟨m1,m2⟩:=List.pairwise_cons.1 hm
  have hxy:x=y:=by
   have hx:=(h x).1 (by simp)
   have hy:=(h y).2 (by simp)
   rcases List.mem_cons.1 hx with e|hx
   ·exact e
   ·rcases List.mem_cons.1 hy with e|hy
    ·exact e.symm
    ·exact absurd (tT (l1 _ hy) (m1 _ hx)) (mO _)
  subst hxy
  congr 1
  refine rH l2 m2 fun z=>?_
  have hz:=h z
  simp only[List.mem_cons] at hz
  constructor
  ·intro hzl
   rcases hz.1 (.inr hzl) with e|e
   ·subst e;exact absurd (l1 _ hzl) (mO _)
   ·exact e
  ·intro hzm
   rcases hz.2 (.inr hzm) with e|e
   ·subst e;exact absurd (m1 _ hzm) (mO _)
   ·exact e
theorem wS (l:List ByteArray) (z:ByteArray):z∈mK l↔z∈l:=by
 have h:(mK l).Perm ((l.map bOf).map sOf):=(List.mergeSort_perm _ _).map sOf
 rw[h.mem_iff,List.map_map]
 simp only[List.mem_map,Function.comp]
 constructor
 ·rintro⟨a,ha,rfl⟩;exact ha
 ·intro hz;exact⟨z,hz,rfl⟩
theorem wU (l:List ByteArray):(mK l).length=l.length:=by unfold mK;rw[List.length_map,List.length_mergeSort,List.length_map]
theorem pW {l:List ByteArray} (hn:l.Nodup):(mK l).Pairwise bLt:=by
 have hp:(mK l).Perm l:=by
  have:=(List.mergeSort_perm (l.map bOf) fun x y=>decide (x≤y)).map sOf
  rw[List.map_map] at this
  have e:l.map (sOf∘bOf)=l:=by
   conv=>rhs;rw[←List.map_id l]
   rfl
  rw[e] at this
  exact this
 have hnd:(mK l).Nodup:=hp.nodup_iff.2 hn
 have hs:((l.map bOf).mergeSort fun x y=>decide (x≤y)).Pairwise fun a b=>(decide (a≤b))=true:=by
  refine List.pairwise_mergeSort (fun a b c h1 h2=>?_) (fun a b=>?_) _
  ·simp only[decide_eq_true_eq] at h1 h2 ⊢;exact List.le_trans h1 h2
  ·simp only[Bool.or_eq_true,decide_eq_true_eq];exact List.le_total a b
 have hs2:(mK l).Pairwise fun a b=>bOf a≤bOf b:=by
  unfold mK
  rw[List.pairwise_map]
  exact hs.imp fun h=>by simpa [DF] using h
 refine(hs2.and hnd).imp fun⟨h1,h2⟩=>?_
 rcases yO _ _ with h|h|h
 ·exact h
 ·exact absurd h h2
 ·exact absurd h (fun hh=>h1 hh)
def ddp:List ByteArray→List ByteArray
 |[]=>[]
 |x::l=>if x∈l then ddp l else x::ddp l
theorem qj:∀(l:List ByteArray) (z:ByteArray),z∈ddp l↔z∈l
 |[],z=>by simp[ddp]
 |x::l,z=>by
  unfold ddp
  split
  ·rename_i h
   rw[qj l z,List.mem_cons]
   exact⟨.inr,fun hh=>hh.elim (fun e=>e▸h) id⟩
  ·rw[List.mem_cons,List.mem_cons,qj l z]
theorem oT:∀l:List ByteArray,(ddp l).Nodup
 |[]=>by simp[ddp]
 |x::l=>by
  unfold ddp
  split
  ·exact oT l
  ·rename_i h
   exact List.nodup_cons.2 ⟨by rw[qj];exact h,oT l⟩
def xE (l:List ByteArray):List ByteArray:=mK (ddp l)
theorem vy (l:List ByteArray) (z:ByteArray):z∈xE l↔z∈l:=by
 unfold xE
 rw[wS,qj]
theorem xk (l:List ByteArray):(xE l).Pairwise bLt:=pW (oT l)
theorem zB {l m:List ByteArray} (h:m.Pairwise bLt) (hm:∀x,x∈m↔x∈l):m=xE l:=rH h (xk l) fun x=>by rw[hm,vy]
theorem zC:∀l:List ByteArray,(ddp l).length≤l.length
 |[]=>by simp[ddp]
 |x::l=>by
  have:=zC l
  unfold ddp
  split<;>simp<;>omega
theorem BX (l:List ByteArray):(xE l).length≤l.length:=by unfold xE;rw[wU];exact zC l
def ixN:List ByteArray→ByteArray→Nat
 |[],_=>0
 |x::l,s=>if x=s then 0 else ixN l s+1
theorem ci:∀{l:List ByteArray} {s:ByteArray},s∈l→ixN l s<l.length∧l[ixN l s]?=some s
 |x::l,s,h=>by
  unfold ixN
  split
  ·rename_i e;subst e;simp
  ·rename_i e
   have h2:=ci ((List.mem_cons.1 h).resolve_left (fun hh=>e hh.symm))
   simpa using h2
def ix (l:List ByteArray) (s:ByteArray):Int:=if s∈l then(ixN l s:Int) else-1
theorem qx {l:List ByteArray} {s:ByteArray}:ix l s<0↔s∉l:=by
 unfold ix;split<;>simp_all
theorem AD {l:List ByteArray} {s:ByteArray}:0≤ix l s↔s∈l:=by
 unfold ix;split<;>simp_all
theorem iD {l:List ByteArray} {s:ByteArray} (h:s∈l):ix l s=(ixN l s:Int):=by unfold ix;rw[if_pos h]
set_option maxRecDepth 100000
def ir95:J:=js [jm 2 (ki 0)] [0] (.seq (js [jm 5 0,jq 6 (.len false 5),jm 7 (ki 0)] [5,6,7] (.bl 0 (js [jb 8 .lss .i 7 6] [5,6,7,8] (.seq (.cond 8 .skip (.exit 0)) (.seq (.block 1 (js [ja 9 1 5 7,jk 10 9,jm 4 10] [4,5,6,7] (js [jm 11 4,jb 12 .neq .i 11 (ki 0)] [4,5,6,7,12] (.cond 12 (js [jm 13 4,jm 2 13] [2] .ret) .skip)))) (.reg none [jb 14 .add .i 7 (ki 1),jm 7 14] [5,6,7])))))) (js [jm 2 (ki 0)] [2] .ret))
def rv95:List RV:=[.t 2]
open Go.Proofs Go.IntWalk
set_option linter.unusedVariables false
set_option maxHeartbeats 4000000
def gE (g:G) (t:TE):List Int→LR Int Unit
 |[]=>
  (LR.out ())
 |z1::ls1=>
  br (g.eq z1 0)
  (
   gE g t ls1)
  (
   (LR.ret z1))
def nL (g:G) (t:TE) (a0:List Int):Int:=
 lP (gE g t a0) fun o1=>lrp o1 fun y1=>
 0
theorem Aa {g:G} {t:TE} {a0:List Int} {r:Int} (hg:g=G.real) (ht:t=TE.real) (h:nL g t a0=r):Fn Tryz.prog 95 [.c (.s 1 (t.r_I64 a0))] (.c (.r (.v (.int .i64 r)))):=by
 obtain⟨X,hX⟩:=aC (.c (.r (.v (.int .i64 r))):X);rw[←hX];refine ay (rvs:=rv95) (j:=ir95) Tryz.func95 rfl (by kernel_rfl) (nb rfl) (by kernel_rfl) ac ?_;intro g2 F hg2 hF;obtain rfl:g2=g:=hg2.unique.trans hg.symm;clear hg2;obtain⟨wrap,lt,_,eq,_,_,_,_,_,_,_,_,_,add,_,_,_,_,_,_,_,llen⟩:=g2;obtain⟨_,_,_,_,_,_,r_I64⟩:=t
 unfold nL at h;try dsimp only at h
 cbv;obtain⟨o1,ho1,h⟩:=ah h;try dsimp only at h
 try rw[hg] at ho1
 try rw[ht] at ho1
 refine ABL.mk {p:Nat×Int//p.1≤a0.length∧p.2=((p.1:Nat):Int)∧gE G.real TE.real (List.drop p.1 a0)=o1} (fun⟨⟨k1,v1⟩,_⟩=>({sl:=[(5,.c (.r (.s 1 (r_I64 a0)))),(6,.c (.r (.v (.int .i64 (llen (r_I64 a0)))))),(7,.c (.r (.v (.int .i64 v1))))],tab:=[]}:St)) 0 (fun p=>a0.length-p.1.1) ⟨(0,0),Nat.zero_le _,rfl,ho1⟩ (Unit) (fun _=>({sl:=[],tab:=[]}:St)) 0 (fun y=>o1=LR.out y) ?_ ?_ ?_
 ·refine Wk.of [] rfl rfl ?_ ?_
  ·cbv;all_goals exact⟨⟨_,rfl,rfl⟩,⟨_,rfl,rfl⟩,⟨_,rfl,rfl⟩,trivial⟩
  cbv;all_goals exact trivial
 ·rintro⟨⟨k1,v1⟩,hk1,hi1,h_1⟩ hq1;have hm1:=(hq1.1 5 _ _ rfl);try dsimp only at hk1 hi1 h_1
  clear hq1;cbv
  by_cases hc1_:k1<a0.length
  ·have hb1:lt v1 (llen (r_I64 a0))=true:=fX hg ht hi1 hc1_;have hs1:=jU hg ht hi1 hc1_ hm1;obtain⟨z1,hz1⟩:=aG hc1_;rw[ax hz1] at h_1;rw[gE] at h_1;try rw[←hg] at h_1
   try rw[←ht] at h_1
   try dsimp only at h_1
   rw[hb1];cbv;refine AStep.mk (ez hi1) ?_;cbv;refine AGet.mk _ (gP hg ht hi1 hz1) ?_;cbv
   cases hb2:(eq z1 0)
   ·rw[aa hb2] at h_1;cbv;subst h_1;try dsimp only[lr,lrL,lrp,aZ] at h
    subst h;exact ARet.mk trivial hX.symm
   rw[ab hb2] at h_1;cbv;try rw[hg] at h_1
   try rw[ht] at h_1
   refine⟨⟨(k1+1,(wrap .i64 (add v1 1))),hc1_,hs1,h_1⟩,Wk.of [] rfl rfl ?_ ?_,aK hc1_⟩
   ·cbv;all_goals exact⟨⟨_,rfl,rfl⟩,⟨_,rfl,rfl⟩,⟨_,rfl,rfl⟩,trivial⟩
   cbv;all_goals exact trivial
  have hb1:lt v1 (llen (r_I64 a0))=false:=fj hg ht hi1 hc1_;rw[List.drop_of_length_le (Nat.le_of_not_lt hc1_)] at h_1;rw[gE] at h_1;try rw[←hg] at h_1
  try rw[←ht] at h_1
  try dsimp only at h_1
  rw[hb1];cbv;refine⟨(),Wk.of [] rfl rfl ?_ ?_,h_1.symm⟩
  ·cbv;all_goals exact trivial
  cbv;all_goals exact trivial
 rintro _ hy1;replace hy1:=hy1.symm;subst hy1;try dsimp only[lr,lrL,lrp,aZ] at h
 cbv;subst h;exact ARet.mk trivial hX.symm
def ir96:J:=js [jm 4 (ki 0)] [0,1] (.seq (.block 0 (js [jm 6 0,jm 7 1,jb 8 .lss .i 6 7,jm 5 8] [0,1,5] (.cond 5 (js [jq 4 (.mv (.k (V.i (-1))))] [4] .ret) (js [jm 10 0,jm 11 1,jb 12 .gtr .i 10 11,jm 9 12] [9] (.cond 9 (js [jm 4 (ki 1)] [4] .ret) .skip))))) (js [jm 4 (ki 0)] [4] .ret))
def rv96:List RV:=[.t 4]
def cv (g:G) (t:TE) (a0:Int) (a1:Int):Int:=
 br (g.lt a0 a1)
 (
  (-1))
 (
  br (g.lt a1 a0)
  (
   1)
  (
   0))
theorem eh {g:G} {t:TE} {a0:Int} {a1:Int} {r:Int} (hg:g=G.real) (ht:t=TE.real) (h:cv g t a0 a1=r):Fn Tryz.prog 96 [.c (.v (.int .i64 a0)),.c (.v (.int .i64 a1))] (.c (.r (.v (.int .i64 r)))):=by
 obtain⟨X,hX⟩:=aC (.c (.r (.v (.int .i64 r))):X);rw[←hX];refine ay (rvs:=rv96) (j:=ir96) Tryz.func96 rfl (by kernel_rfl) (nb rfl) (by kernel_rfl) ac ?_;intro g2 F hg2 hF;obtain rfl:g2=g:=hg2.unique.trans hg.symm;clear hg2;obtain⟨_,lt⟩:=g2;obtain⟨_⟩:=t
 unfold cv at h;try dsimp only at h
 cbv
 cases hb1:(lt a0 a1)
 rotate_left
 ·rw[ab hb1] at h;cbv;subst h;exact ARet.mk trivial hX.symm
 rw[aa hb1] at h;cbv
 cases hb2:(lt a1 a0)
 rotate_left
 ·rw[ab hb2] at h;cbv;subst h;exact ARet.mk trivial hX.symm
 rw[aa hb2] at h;cbv;subst h;exact ARet.mk trivial hX.symm
open Go.Proofs Go.RowKit
set_option maxHeartbeats 1000000
theorem mj (a b:ByteArray) (w:Go.World):
 Calls Tryz.prog 142 #[.string a,.string b] w fun e w'=>e=.returned (.int .i64 (Lib.compareBytes a.data.toList b.data.toList))∧w'=w:=by
 go_enter Tryz.func142,Tryz.ntmps142
 go_wp2
 rw[run_callFunc_extern Tryz.func175 (by kernel_rfl) (by kernel_rfl) (by kernel_rfl) (e:=Extern.BytealgCompare.compare) (by kernel_rfl),Lib.run_compareString]
 simp only[Result.andThen]
 rw[Oper.upon_value]
 go_wp2
 go_ret
 exact⟨rfl,rfl⟩
theorem ml (a b:ByteArray) (w:Go.World):
 Calls Tryz.prog 97 #[.string a,.string b] w fun e w'=>e=.returned (.int .i64 (Lib.compareBytes a.data.toList b.data.toList))∧w'=w:=by
 go_enter Tryz.func97,Tryz.ntmps97
 go_wp2_with (go_at_call 142;refine(mj _ _ _).mono ?_;rintro e w' ⟨rfl,rfl⟩)
 go_ret
 exact⟨rfl,rfl⟩
def gg (g:G) (t:TE) (a b:ByteArray):Int:=Lib.compareBytes a.data.toList b.data.toList
theorem mp {g:G} {t:TE} {a0 a1:ByteArray} {r:Int} (hg:g=G.real) (ht:t=TE.real) (h:gg g t a0 a1=r):Fn Tryz.prog 97 [.c (.v (.string a0)),.c (.v (.string a1))] (.c (.r (.v (.int .i64 r)))):=by
 subst h;exact F5 (xs:=[.string a0,.string a1]) rfl (fun w=>ml a0 a1 w)
def ir37:J:=js [jq 2 (.box 0),jq 3 (.box 1),jm 4 (ki 0)] [2,3] (.seq (.reg (some [[],[0],[],[2],[0,1,2,3],[],[5],[],[7],[0,1,2,3,4,5,6,7,8],[],[10],[],[12],[0,1,2,3,4,5,6,7,8,9,10,11,12,13],[],[15],[15,16],[],[18],[18,19],[0,1,2,3,4,5,6,7,8,9,10,11,12,13,14,15,16,17,18,19,20],[],[22],[22,23],[],[25],[25,26],[0,1,2,3,4,5,6,7,8,9,10,11,12,13,14,15,16,17,18,19,20,21,22,23,24,25,26,27],[],[29],[],[31],[0,1,2,3,4,5,6,7,8,9,10,11,12,13,14,15,16,17,18,19,20,21,22,23,24,25,26,27,28,29,30,31,32],[0,1,2,3,4,5,6,7,8,9,10,11,12,13,14,15,16,17,18,19,20,21,22,23,24,25,26,27,28,29,30,31,32,33],[0,1,2,3,4,5,6,7,8,9,10,11,12,13,14,15,16,17,18,19,20,21,22,23,24,25,26,27,28,29,30,31,32,33,34],[0,1,2,3,4,5,6,7,8,9,10,11,12,13,14,15,16,17,18,19,20,21,22,23,24,25,26,27,28,29,30,31,32,33,34,35]]) [jf 5 1 2,jk 6 5,jf 7 1 3,jk 8 7,jc 9 96 [6,8],jf 10 0 2,jk 11 10,jf 12 0 3,jk 13 12,jc 14 96 [11,13],jf 15 2 2,jk 16 15,jf 17 2 3,jk 18 17,jc 19 96 [16,18],jf 20 4 2,jf 21 1 20,jk 22 21,jf 23 4 3,jf 24 1 23,jk 25 24,jc 26 96 [22,25],jf 27 4 2,jf 28 0 27,jk 29 28,jf 30 4 3,jf 31 0 30,jk 32 31,jc 33 96 [29,32],jf 34 3 2,jk 35 34,jf 36 3 3,jk 37 36,jc 38 97 [35,37],jq 39 (.bsl 1 [9,14,19,26,33,38]),jc 40 95 [39],jm 4 40] [4]) .ret)
def rv37:List RV:=[.t 4]
def bL (g:G) (t:TE) (a0:Scan) (a1:Scan):Int:=
 lP (cv g t a0.At a1.At) fun x1=>
 lP (cv g t a0.Thing a1.Thing) fun x2=>
 lP (cv g t a0.Kind a1.Kind) fun x3=>
 lP (cv g t a0.Trip.Day a1.Trip.Day) fun x4=>
 lP (cv g t a0.Trip.Leg a1.Trip.Leg) fun x5=>
 lP (gg g t a0.Place a1.Place) fun x6=>
 lP ([x1,x2,x3,x4,x5,x6]) fun(l1:List Int)=>
 lP (nL g t l1) fun x7=>
 x7
theorem jE {g:G} {t:TE} {a0:Scan} {a1:Scan} {r:Int} (hg:g=G.real) (ht:t=TE.real) (h:bL g t a0 a1=r):Fn Tryz.prog 37 [.g (Scan.rs t a0),.g (Scan.rs t a1)] (.c (.r (.v (.int .i64 r)))):=by
 obtain⟨X,hX⟩:=aC (.c (.r (.v (.int .i64 r))):X);rw[←hX];refine ay (rvs:=rv37) (j:=ir37) Tryz.func37 rfl (by kernel_rfl) (nb rfl) (by kernel_rfl) ac ?_;intro g2 F hg2 hF;obtain rfl:g2=g:=hg2.unique.trans hg.symm;clear hg2;obtain⟨_,_,_,_,_,_,_,_,_,_,_,_,_,_,_,_,_,_,_,_,_,_,_,_,dlen,_,_,_,rd⟩:=g2;obtain⟨_,_,_,_,_,_,r_I64,d_I64⟩:=t
 obtain⟨a0_Thing,a0_At,a0_Kind,a0_Place,⟨a0_Trip_Leg,a0_Trip_Day⟩⟩:=a0;obtain⟨a1_Thing,a1_At,a1_Kind,a1_Place,⟨a1_Trip_Leg,a1_Trip_Day⟩⟩:=a1;unfold bL at h;try dsimp only at h
 cbv;obtain⟨x1,hx1,h⟩:=ah h;try dsimp only at h
 refine ACall.mk _ _ rfl (hF _ _ _ (eh hg ht hx1)) (.inl rfl) (nb rfl) ?_;cbv;obtain⟨x2,hx2,h⟩:=ah h;try dsimp only at h
 refine ACall.mk _ _ rfl (hF _ _ _ (eh hg ht hx2)) (.inl rfl) (nb rfl) ?_;cbv;obtain⟨x3,hx3,h⟩:=ah h;try dsimp only at h
 refine ACall.mk _ _ rfl (hF _ _ _ (eh hg ht hx3)) (.inl rfl) (nb rfl) ?_;cbv;obtain⟨x4,hx4,h⟩:=ah h;try dsimp only at h
 refine ACall.mk _ _ rfl (hF _ _ _ (eh hg ht hx4)) (.inl rfl) (nb rfl) ?_;cbv;obtain⟨x5,hx5,h⟩:=ah h;try dsimp only at h
 refine ACall.mk _ _ rfl (hF _ _ _ (eh hg ht hx5)) (.inl rfl) (nb rfl) ?_;cbv;obtain⟨x6,hx6,h⟩:=ah h;try dsimp only at h
 refine ACall.mk _ _ rfl (hF _ _ _ (mp hg ht hx6)) (.inl rfl) (nb rfl) ?_;cbv;obtain⟨l1,hl1,h⟩:=ah h;try dsimp only at h
 refine ANew.mk (d_I64 l1) (dlen (d_I64 l1)) (by rw[←hl1];exact dB hg ht [x1,x2,x3,x4,x5,x6]) (by rw[←hl1];exact cH hg ht [x1,x2,x3,x4,x5,x6]) ?_;cbv;refine AStep.mk (n6 ht (ak hg ht _)) ?_;cbv;obtain⟨x7,hx7,h⟩:=ah h;try dsimp only at h
 refine ACall.mk _ _ (by rw[show rd (d_I64 l1) 0 (dlen (d_I64 l1))=r_I64 l1 from qh hg ht (ak hg ht _)];try rfl) (hF _ _ _ (Aa hg ht hx7)) (.inr rfl) (nb rfl) ?_
 cbv;subst h;exact ARet.mk trivial hX.symm
end Go.Vs
namespace Go.Vs
open Go.IntWalk
theorem CH:∀(a b:List UInt8),(a==b)=decide (Lib.compareBytes a b=0)
 |[],[]=>rfl
 |[],_::_=>rfl
 |_::_,[]=>rfl
 |a::x,b::y=>by
  have:=CH x y
  rw[Lib.compareBytes]
  by_cases h:a<b
  ·have:a≠b:=fun e=>absurd (e▸h) (UInt8.lt_irrefl _)
   simp[h,this]
  ·by_cases h2:b<a
   ·have:a≠b:=fun e=>absurd (e▸h2) (UInt8.lt_irrefl _)
    simp[h,h2,this]
   ·have e:a=b:=UInt8.le_antisymm (UInt8.not_lt.1 h2) (UInt8.not_lt.1 h)
    subst e
    rw[if_neg h,if_neg h,←this]
    simp
def eu (x y:Int):Int:=if x<y then-1 else if y<x then 1 else 0
theorem DS (x y:Int):cv G.real TE.real x y=eu x y:=by
 unfold cv eu
 simp only[dc,al]
def fo:List Int→Int
 |[]=>0
 |x::l=>if x=0 then fo l else x
theorem Cl (l:List Int):nL G.real TE.real l=fo l:=by
 unfold nL
 simp only[aN]
 induction l with
 |nil=>rfl
 |cons x l ih=>
  rw[gE,fo]
  simp only[de,al]
  by_cases h:x=0
  ·rw[if_pos h,if_pos h];exact ih
  ·rw[if_neg h,if_neg h];rfl
theorem Hh (a b:Scan):bL G.real TE.real a b=
 fo [eu a.At b.At,eu a.Thing b.Thing,eu a.Kind b.Kind,eu a.Trip.Day b.Trip.Day,eu a.Trip.Leg b.Trip.Leg,Lib.compareBytes a.Place.data.toList b.Place.data.toList]:=by
 unfold bL
 simp only[aN,DS,Cl,gg]
end Go.Vs
namespace Go.Vs
open Go.IntWalk
structure C3 {α:Type} (c:α→α→Int):Prop where
 anti:∀a b,c b a= -c a b
 tr:∀a b d,c a b≤0→c b d≤0→c a d≤0
theorem C3.refl {α:Type} {c:α→α→Int} (h:C3 c) (a:α):c a a=0:=by have:=h.anti a a;omega
def lex {α:Type} (c d:α→α→Int) (a b:α):Int:=if c a b=0 then d a b else c a b
theorem C3.lex {α:Type} {c d:α→α→Int} (h:C3 c) (k:C3 d):C3 (lex c d):={
 anti a b:=by
  unfold Vs.lex
  have h1:=h.anti a b
  have h2:=k.anti a b
  split<;>split<;>omega
 tr a b e:=by
  unfold Vs.lex
  have h1:=h.tr a b e
  have h2:=h.tr e a b
  have h3:=h.tr b e a
  have h4:=h.anti a b
  have h5:=h.anti a e
  have h6:=h.anti b e
  have h7:=k.tr a b e
  split<;>split<;>split<;>omega }
theorem C3.of {α β:Type} {c:β→β→Int} (h:C3 c) (f:α→β):C3 fun a b=>c (f a) (f b):=⟨fun _ _=>h.anti _ _,fun _ _ _=>h.tr _ _ _⟩
theorem nG:C3 eu :={
 anti a b:=by unfold eu;split<;>split<;>(try split)<;>omega
 tr a b d:=by unfold eu;split<;>split<;>(try split)<;>(try split)<;>(try split)<;>omega }
theorem jR {a b:Int} (h:eu a b=0):a=b:=by unfold eu at h;split at h<;>(try split at h)<;>omega
theorem zc:∀a b:List UInt8,Lib.compareBytes b a= -Lib.compareBytes a b
 |[],[]=>rfl
 |[],_::_=>rfl
 |_::_,[]=>rfl
 |a::x,b::y=>by
  rw[Lib.compareBytes,Lib.compareBytes,zc x y]
  by_cases h:a<b
  ·have h2:¬b<a:=fun e=>absurd (UInt8.lt_trans h e) (UInt8.lt_irrefl _)
   rw[if_pos h,if_neg h2,if_pos h];rfl
  ·by_cases h2:b<a
   ·rw[if_pos h2,if_neg h,if_pos h2]
   ·rw[if_neg h2,if_neg h,if_neg h,if_neg h2]
theorem EO:∀a b d:List UInt8,Lib.compareBytes a b≤0→Lib.compareBytes b d≤0→Lib.compareBytes a d≤0
 |[],_,[],_,_=>by simp[Lib.compareBytes]
 |[],_,_::_,_,_=>by simp[Lib.compareBytes]
 |_::_,[],_,h,_=>by simp[Lib.compareBytes] at h
 |_::_,_::_,[],_,h=>by simp[Lib.compareBytes] at h
 |a::x,b::y,d::z,h1,h2=>by
  rw[Lib.compareBytes] at h1 h2 ⊢
  have ih:=EO x y z
  by_cases e1:a<b
  ·by_cases e2:b<d
   ·rw[if_pos (UInt8.lt_trans e1 e2)];decide
   ·rw[if_neg e2] at h2
    by_cases e3:d<b
    ·rw[if_pos e3] at h2;exact absurd h2 (by decide)
    ·have:b=d:=UInt8.le_antisymm (UInt8.not_lt.1 e3) (UInt8.not_lt.1 e2)
     subst this
     rw[if_pos e1];decide
  ·rw[if_neg e1] at h1
   by_cases e4:b<a
   ·rw[if_pos e4] at h1;exact absurd h1 (by decide)
   ·have:a=b:=UInt8.le_antisymm (UInt8.not_lt.1 e4) (UInt8.not_lt.1 e1)
    subst this
    rw[if_neg e4] at h1
    by_cases e2:a<d
    ·rw[if_pos e2];decide
    ·rw[if_neg e2] at h2 ⊢
     by_cases e3:d<a
     ·rw[if_pos e3] at h2;exact absurd h2 (by decide)
     ·rw[if_neg e3] at h2 ⊢
      exact ih h1 h2
theorem Gv:C3 Lib.compareBytes:=⟨zc,EO⟩
def cmS (a b:Scan):Int:=fo [eu a.At b.At,eu a.Thing b.Thing,eu a.Kind b.Kind,eu a.Trip.Day b.Trip.Day,eu a.Trip.Leg b.Trip.Leg,Lib.compareBytes a.Place.data.toList b.Place.data.toList]
theorem H1 (a b:Scan):bL G.real TE.real a b=cmS a b:=Hh a b
theorem xg (x:Int):fo [x]=x:=by simp only[fo];split<;>omega
theorem ut:cmS=lex (fun a b:Scan=>eu a.At b.At) (lex (fun a b=>eu a.Thing b.Thing) (lex (fun a b=>eu a.Kind b.Kind) (lex (fun a b=>eu a.Trip.Day b.Trip.Day) (lex (fun a b=>eu a.Trip.Leg b.Trip.Leg) (fun a b=>Lib.compareBytes a.Place.data.toList b.Place.data.toList))))):=by
 funext a b
 unfold cmS
 simp only[lex]
 rw[fo,fo,fo,fo,fo,xg]
theorem ic:C3 cmS:=by
 rw[ut]
 exact(nG.of Scan.At).lex<|(nG.of Scan.Thing).lex<|(nG.of Scan.Kind).lex<|(nG.of fun s:Scan=>s.Trip.Day).lex<|(nG.of fun s:Scan=>s.Trip.Leg).lex<|Gv.of fun s:Scan=>s.Place.data.toList
theorem lF {α:Type} {c d:α→α→Int} {a b:α} (h:lex c d a b=0):c a b=0∧d a b=0:=by
 unfold lex at h
 split at h
 ·exact⟨‹_›,h⟩
 ·exact absurd h ‹_›
theorem n7 {a b:Scan} (h:cmS a b=0):a=b:=by
 rw[ut] at h
 obtain⟨h1,h⟩:=lF h
 obtain⟨h2,h⟩:=lF h
 obtain⟨h3,h⟩:=lF h
 obtain⟨h4,h⟩:=lF h
 obtain⟨h5,h6⟩:=lF h
 have h7:=CH a.Place.data.toList b.Place.data.toList
 rw[decide_eq_true h6] at h7
 have h8:=jR h1
 have h9:=jR h2
 have h10:=jR h3
 have h11:=jR h4
 have h12:=jR h5
 have h13:a.Place=b.Place:=by
  have:=eq_of_beq h7
  cases hA:a.Place with
  |mk x=>cases hB:b.Place with
   |mk y=>rw[hA,hB] at this;cases x;cases y;simp at this;subst this;rfl
 cases a with
 |mk t1 a1 k1 p1 tr1=>cases b with
  |mk t2 a2 k2 p2 tr2=>cases tr1;cases tr2;simp_all
theorem wB (a:Scan):cmS a a=0:=ic.refl a
theorem nE {a b c:Scan} (h1:cmS a b<0) (h2:cmS b c<0):cmS a c<0:=by
 have h3:=ic.tr a b c (by omega) (by omega)
 rcases Int.lt_or_eq_of_le h3 with h|h
 ·exact h
 ·have:=n7 h
  subst this
  have:=ic.anti a b
  omega
theorem wY:∀{l m:List Scan},l.Pairwise (fun a b=>cmS a b<0)→m.Pairwise (fun a b=>cmS a b<0)→(∀x,x∈l↔x∈m)→l=m
 |[],[],_,_,_=>rfl
 |[],y::m,_,_,h=>by have:=(h y).2 (by simp);simp at this
 |x::l,[],_,_,h=>by have:=(h x).1 (by simp);simp at this
 |x::l,y::m,hl,hm,h=>by
  obtain⟨l1,l2⟩:=List.pairwise_cons.1 hl
  obtain⟨m1,m2⟩:=List.pairwise_cons.1 hm
  have irr:∀a:Scan,¬cmS a a<0:=fun a=>by rw[wB];decide
  have hxy:x=y:=by
   have hx:=(h x).1 (by simp)
   have hy:=(h y).2 (by simp)
   rcases List.mem_cons.1 hx with e|hx
   ·exact e
   ·rcases List.mem_cons.1 hy with e|hy
    ·exact e.symm
    ·exact absurd (nE (l1 _ hy) (m1 _ hx)) (irr _)
  subst hxy
  congr 1
  refine wY l2 m2 fun z=>?_
  have hz:=h z
  simp only[List.mem_cons] at hz
  constructor
  ·intro hzl
   rcases hz.1 (.inr hzl) with e|e
   ·subst e;exact absurd (l1 _ hzl) (irr _)
   ·exact e
  ·intro hzm
   rcases hz.2 (.inr hzm) with e|e
   ·subst e;exact absurd (m1 _ hzm) (irr _)
   ·exact e
end Go.Vs
namespace Go.Vs
open Go.IntWalk
def leS (a b:Scan):Bool:= !decide (cmS b a<0)
theorem nu (a b:Scan):leS a b=true↔cmS a b≤0:=by
 have:=ic.anti a b
 simp[leS];omega
theorem Ca (a b c:Scan) (h1:leS a b=true) (h2:leS b c=true):leS a c=true:=by
 rw[nu] at h1 h2 ⊢
 exact ic.tr _ _ _ h1 h2
theorem Dq (a b:Scan):(leS a b||leS b a)=true:=by
 have:=ic.anti a b
 rw[Bool.or_eq_true,nu,nu];omega
theorem F6 (a b:Scan) (h1:leS a b=true) (h2:leS b a=true):a=b:=by
 have:=ic.anti a b
 rw[nu] at h1 h2
 exact n7 (by omega)
def StrS (l:List Scan):Prop:=l.Pairwise fun a b=>cmS a b<0
def ddF:Option Scan→List Scan→List Scan
 |_,[]=>[]
 |none,x::l=>x::ddF (some x) l
 |some p,x::l=>if cmS p x=0 then ddF (some x) l else x::ddF (some x) l
theorem xd:∀(l:List Scan) (p:Scan),(p::l).Pairwise (fun a b=>cmS a b≤0)→(StrS (ddF (some p) l)∧(∀x∈ddF (some p) l,cmS p x<0))∧∀x,(x=p∨x∈ddF (some p) l)↔(x=p∨x∈l)
 |[],p,_=>⟨⟨List.Pairwise.nil,by simp[ddF]⟩,by simp[ddF]⟩
 |y::l,p,h=>by
  obtain⟨h1,h2⟩:=List.pairwise_cons.1 h
  obtain⟨⟨i1,i2⟩,i3⟩:=xd l y h2
  rw[ddF]
  by_cases e:cmS p y=0
  ·have:=n7 e
   subst this
   rw[if_pos e]
   refine⟨⟨i1,i2⟩,fun x=>?_⟩
   rw[i3 x,List.mem_cons]
   constructor
   ·rintro(h|h)
    ·exact .inl h
    ·exact .inr (.inr h)
   ·rintro(h|h|h)
    ·exact .inl h
    ·exact .inl h
    ·exact .inr h
  ·rw[if_neg e]
   have hp:cmS p y<0:=by have:=h1 y (by simp);omega
   refine⟨⟨List.pairwise_cons.2 ⟨i2,i1⟩,fun x hx=>?_⟩,fun x=>?_⟩
   ·rcases List.mem_cons.1 hx with rfl|hx
    ·exact hp
    ·exact nE hp (i2 x hx)
   ·rw[List.mem_cons,List.mem_cons,i3 x]
theorem vG {l:List Scan} (h:l.Pairwise fun a b=>cmS a b≤0):StrS (ddF none l)∧∀x,x∈ddF none l↔x∈l:=by
 cases l with
 |nil=>exact⟨List.Pairwise.nil,by simp[ddF]⟩
 |cons y l=>
  obtain⟨⟨i1,i2⟩,i3⟩:=xd l y h
  rw[ddF]
  refine⟨List.pairwise_cons.2 ⟨i2,i1⟩,fun x=>?_⟩
  rw[List.mem_cons,List.mem_cons,i3 x]
theorem uZ:∀(p:Option Scan) (l:List Scan),(ddF p l).length≤l.length
 |_,[]=>by cases ‹Option Scan› <;>exact Nat.le_refl _
 |none,x::l=>by have:=uZ (some x) l;simp[ddF];exact this
 |some p,x::l=>by
  have:=uZ (some x) l
  rw[ddF];split
  ·simp;omega
  ·simp;exact this
def AT (l:List Scan):List Scan:=ddF none (l.mergeSort leS)
theorem wj (l:List Scan):(l.mergeSort leS).Pairwise fun a b=>cmS a b≤0:=
 List.Pairwise.imp (fun{a b} h=>(nu a b).1 h) (List.pairwise_mergeSort Ca Dq l)
theorem Cj (l:List Scan):StrS (AT l):=(vG (wj l)).1
theorem Cd (l:List Scan) (x:Scan):x∈AT l↔x∈l:=by
 rw[AT,(vG (wj l)).2 x,List.mem_mergeSort]
theorem BL (l:List Scan):(AT l).length≤l.length:=by
 have:=uZ none (l.mergeSort leS)
 rw[List.length_mergeSort] at this
 exact this
set_option maxRecDepth 100000
def ir92:J:=js [jm 5 kf] [0,1,2] (.seq (.reg (some [[],[],[0,1],[0,1,2],[],[],[4,5],[4,5,6],[0,1,2,3,4,5,6,7],[0,1,2,3,4,5,6,7,8],[0,1,2,3,4,5,6,7,8,9]]) [jk 6 2,jm 7 0,ja 8 6 6 7,jl 9 6 8,jk 10 2,jm 11 1,ja 12 6 10 11,jl 13 6 12,jc 14 37 [9,13],jb 15 .lss .i 14 (ki 0),jm 5 15] [5]) .ret)
def rv92:List RV:=[.t 5]
open Go.Proofs Go.IntWalk
set_option linter.unusedVariables false
set_option maxHeartbeats 4000000
def jt (g:G) (t:TE) (a0:Int) (a1:Int) (a2:List Scan):Option Bool:=
 gd (((0:Int)≤a0))<|
 gt a2 (g.nat a0) fun x1=>
 gd (((0:Int)≤a1))<|
 gt a2 (g.nat a1) fun x2=>
 lP (bL g t (Scan.mk x1.Thing x1.At x1.Kind x1.Place (Trip.mk x1.Trip.Leg x1.Trip.Day)) (Scan.mk x2.Thing x2.At x2.Kind x2.Place (Trip.mk x2.Trip.Leg x2.Trip.Day))) fun x3=>
 some (g.lt x3 0)
theorem p6 {g:G} {t:TE} {a0:Int} {a1:Int} {a2:List Scan} {r:Bool} (hg:g=G.real) (ht:t=TE.real) (h:jt g t a0 a1 a2=some r):Fn Tryz.prog 92 [.c (.v (.int .i64 a0)),.c (.v (.int .i64 a1)),.q [.s 6 (t.r_Scan a2)]] (.c (.r (.v (.bool r)))):=by
 obtain⟨X,hX⟩:=aC (.c (.r (.v (.bool r))):X);rw[←hX];refine ay (rvs:=rv92) (j:=ir92) Tryz.func92 rfl (by kernel_rfl) (nb rfl) (by kernel_rfl) ac ?_;intro g2 F hg2 hF;obtain rfl:g2=g:=hg2.unique.trans hg.symm;clear hg2;obtain⟨_⟩:=g2;obtain⟨_⟩:=t
 unfold jt at h;try dsimp only at h
 cbv;obtain⟨hc1,h⟩:=aj h;refine AStep.mk hc1 ?_;cbv;obtain⟨x1,hx1,h⟩:=aD h;obtain⟨x1_Thing,x1_At,x1_Kind,x1_Place,⟨x1_Trip_Leg,x1_Trip_Day⟩⟩:=x1;try dsimp only at h
 refine AGet.mk _ (kK hg ht hx1) ?_;cbv;obtain⟨hc2,h⟩:=aj h;refine AStep.mk hc2 ?_;cbv;obtain⟨x2,hx2,h⟩:=aD h;obtain⟨x2_Thing,x2_At,x2_Kind,x2_Place,⟨x2_Trip_Leg,x2_Trip_Day⟩⟩:=x2;try dsimp only at h
 refine AGet.mk _ (kK hg ht hx2) ?_;cbv;obtain⟨x3,hx3,h⟩:=ah h;try dsimp only at h
 refine ACall.mk _ _ rfl (hF _ _ _ (jE hg ht hx3)) (.inl rfl) (nb rfl) ?_;cbv;obtain rfl:=Option.some.inj h;exact ARet.mk trivial hX.symm
end Go.Vs
namespace Go.Proofs
open Go.Shelf Go.RowKit Go.Lib Go.Sort
set_option maxHeartbeats 2000000
set_option maxRecDepth 100000
def Tryz.lays8_ren : Go.Shelf.Ren := ⟨fun | 8 => 79 | 13 => 132 | 14 => 133 | 16 => 135 | 15 => 134 | 29 => 170 | 30 => 171 | 42 => 179 | 49 => 183 | n => n, fun | 20 => 20 | 26 => 108 | 36 => 146 | 0 => 0 | 38 => 148 | 42 => 152 | 3 => 3 | 4 => 4 | 47 => 170 | 17 => 17 | 33 => 143 | 34 => 144 | 89 => 210 | 12 => 12 | 56 => 185 | 82 => 203 | 5 => 5 | 83 => 204 | 84 => 205 | 85 => 206 | 86 => 207 | 87 => 208 | n => n, fun | n => n⟩
theorem Tryz.lays8 : Go.Proofs.LaysGt.n8 Tryz.prog Tryz.lays8_ren := {
  mixed := by kernel_rfl
  f8 := Tryz.func79.trans (congrArg some (by kernel_rfl))
  f13 := Tryz.func132.trans (congrArg some (by kernel_rfl))
  f14 := Tryz.func133.trans (congrArg some (by kernel_rfl))
  f15 := Tryz.func134.trans (congrArg some (by kernel_rfl))
  f16 := Tryz.func135.trans (congrArg some (by kernel_rfl))
  f29 := Tryz.func170.trans (congrArg some (by kernel_rfl))
  f30 := Tryz.func171.trans (congrArg some (by kernel_rfl))
  f42 := Tryz.func179.trans (congrArg some (by kernel_rfl))
  f49 := Tryz.func183.trans (congrArg some (by kernel_rfl))
  t0 := Tryz.underlying0
  a0 := Tryz.isAgg0
  z0 := Tryz.sizeOf0
  v0 := Tryz.zeroValue0
  i0 := by kernel_rfl
  t3 := Tryz.underlying3
  a3 := Tryz.isAgg3
  z3 := Tryz.sizeOf3
  v3 := Tryz.zeroValue3
  i3 := by kernel_rfl
  t4 := Tryz.underlying4
  a4 := Tryz.isAgg4
  z4 := Tryz.sizeOf4
  v4 := Tryz.zeroValue4
  i4 := by kernel_rfl
  t5 := Tryz.underlying5
  a5 := Tryz.isAgg5
  z5 := Tryz.sizeOf5
  v5 := Tryz.zeroValue5
  i5 := by kernel_rfl
  t12 := Tryz.underlying12
  a12 := Tryz.isAgg12
  z12 := Tryz.sizeOf12
  v12 := Tryz.zeroValue12
  i12 := by kernel_rfl
  t17 := Tryz.underlying17
  a17 := Tryz.isAgg17
  z17 := Tryz.sizeOf17
  v17 := Tryz.zeroValue17
  i17 := by kernel_rfl
  t20 := Tryz.underlying20
  a20 := Tryz.isAgg20
  z20 := Tryz.sizeOf20
  v20 := Tryz.zeroValue20
  i20 := by kernel_rfl
  t26 := Tryz.underlying108
  a26 := Tryz.isAgg108
  z26 := Tryz.sizeOf108
  v26 := Tryz.zeroValue108
  i26 := by kernel_rfl
  t33 := Tryz.underlying143
  a33 := Tryz.isAgg143
  z33 := Tryz.sizeOf143
  v33 := Tryz.zeroValue143
  i33 := by kernel_rfl
  t34 := Tryz.underlying144
  a34 := Tryz.isAgg144
  z34 := Tryz.sizeOf144
  v34 := Tryz.zeroValue144
  i34 := by kernel_rfl
  t36 := Tryz.underlying146
  a36 := Tryz.isAgg146
  z36 := Tryz.sizeOf146
  v36 := Tryz.zeroValue146
  i36 := by kernel_rfl
  t38 := Tryz.underlying148
  a38 := Tryz.isAgg148
  z38 := Tryz.sizeOf148
  v38 := Tryz.zeroValue148
  i38 := by kernel_rfl
  t42 := Tryz.underlying152
  a42 := Tryz.isAgg152
  z42 := Tryz.sizeOf152
  v42 := Tryz.zeroValue152
  i42 := by kernel_rfl
  t47 := Tryz.underlying170
  a47 := Tryz.isAgg170
  z47 := Tryz.sizeOf170
  v47 := Tryz.zeroValue170
  i47 := by kernel_rfl
  t56 := Tryz.underlying185
  a56 := Tryz.isAgg185
  z56 := Tryz.sizeOf185
  v56 := Tryz.zeroValue185
  i56 := by kernel_rfl
  t82 := Tryz.underlying203
  a82 := Tryz.isAgg203
  z82 := Tryz.sizeOf203
  v82 := Tryz.zeroValue203
  i82 := by kernel_rfl
  t83 := Tryz.underlying204
  a83 := Tryz.isAgg204
  z83 := Tryz.sizeOf204
  v83 := Tryz.zeroValue204
  i83 := by kernel_rfl
  t84 := Tryz.underlying205
  a84 := Tryz.isAgg205
  z84 := Tryz.sizeOf205
  v84 := Tryz.zeroValue205
  i84 := by kernel_rfl
  t85 := Tryz.underlying206
  a85 := Tryz.isAgg206
  z85 := Tryz.sizeOf206
  v85 := Tryz.zeroValue206
  i85 := by kernel_rfl
  t86 := Tryz.underlying207
  a86 := Tryz.isAgg207
  z86 := Tryz.sizeOf207
  v86 := Tryz.zeroValue207
  i86 := by kernel_rfl
  t87 := Tryz.underlying208
  a87 := Tryz.isAgg208
  z87 := Tryz.sizeOf208
  v87 := Tryz.zeroValue208
  i87 := by kernel_rfl
  t89 := Tryz.underlying210
  a89 := Tryz.isAgg210
  z89 := Tryz.sizeOf210
  v89 := Tryz.zeroValue210
  i89 := by kernel_rfl }
noncomputable def Tryz.ssT:TypeInfo:=(Tryz.prog.info? 33).get (by kernel_rfl)
noncomputable def Tryz.ssE:TypeInfo:=(Tryz.prog.info? 59).get (by kernel_rfl)
theorem Tryz.ssN:Tryz.lays8_ren.f 8=79:=by kernel_rfl
theorem Tryz.ss1:Tryz.prog.info? 33=some Tryz.ssT:=by kernel_rfl
theorem Tryz.ss2:Tryz.ssT.desc=.slice 59:=by kernel_rfl
theorem Tryz.ss3:Tryz.prog.packed 33=false:=by kernel_rfl
theorem Tryz.ss4:Tryz.prog.info? 59=some Tryz.ssE:=by kernel_rfl
theorem Tryz.ss5:∀w,(Extern.Rtype.kind 59).run Tryz.prog w=.ok 25 w:=fun _=>by kernel_rfl
theorem Tryz.ss6:Tryz.ssE.size=6:=by kernel_rfl
theorem Tryz.ss7:∀w,(isAgg 59).run Tryz.prog w=.ok true w:=fun _=>by kernel_rfl
theorem Tryz.ss8:∀args w,(callFunc 92 args).run Tryz.prog w=.ok (.enter 92 args) w:=enters_of Tryz.func92 (by kernel_rfl) rfl
theorem Tryz.ss9 (n:Nat) (h2:2≤n):Lib.swapperK n Tryz.ssE 25=9:=by
 have a:Tryz.ssE.hasPointers=true:=by kernel_rfl
 have b:Tryz.ssE.bytes=56:=by kernel_rfl
 have c:(n==0)=false:=by simp;omega
 have d:(n==1)=false:=by simp;omega
 simp[Lib.swapperK,a,b,c,d]
theorem Tryz.ss10:∀args W,(callFunc 169 args).run Tryz.prog W=((Extern.ReflectliteSwapper.swap false args).run Tryz.prog W).andThen fun v w'=>.ok (.value v) w':=
 fun args W=>run_callFunc_extern Tryz.func169 (by kernel_rfl) (by kernel_rfl) (by kernel_rfl) (e:=Extern.ReflectliteSwapper.swap false) (by kernel_rfl) args W
theorem Tryz.ss11 (n:Nat) (h2:2≤n):Tryz.prog.funcs.findIdx? (·.name== "internal/reflectlite" ++ ".Swapper$" ++toString (swapperK n Tryz.ssE 25))=some 169:=by rw[Tryz.ss9 n h2];kernel_rfl
theorem Tryz.ss12 (n:Nat) (h:n≤1):∃f,Tryz.prog.funcs.findIdx? (·.name== "internal/reflectlite" ++ ".Swapper$" ++toString (swapperK n Tryz.ssE 25))=some f:=by
 rcases Nat.le_one_iff_eq_zero_or_eq_one.1 h with rfl|rfl
 ·exact⟨161,by rw[show swapperK 0 Tryz.ssE 25=1 from rfl];kernel_rfl⟩
 ·exact⟨162,by rw[show swapperK 1 Tryz.ssE 25=2 from rfl];kernel_rfl⟩
end Go.Proofs
namespace Go.Vs
open Go Go.Proofs Go.IntWalk
set_option linter.unusedVariables false
def nK (x:Scan):List Value:=[.int .i64 x.Thing,.int .i64 x.At,.int .i64 x.Kind,.string x.Place,.int .i64 x.Trip.Leg,.int .i64 x.Trip.Day]
def ssI:Option Value→Int
 |some (.int _ n)=>n
 |_=>0
def ssS:Option Value→ByteArray
 |some (.string s)=>s
 |_=>.empty
def i4 (l:List Value):Scan:=⟨ssI l[0]?,ssI l[1]?,ssI l[2]?,ssS l[3]?,⟨ssI l[4]?,ssI l[5]?⟩⟩
theorem t9 (x:Scan):i4 (nK x)=x:=rfl
def yi (x y:List Value):Bool:=decide (cmS (i4 x) (i4 y)<0)
theorem FO:Swo yi :={
 asym x y h:=by
  have:=ic.anti (i4 x) (i4 y)
  simp only[yi,decide_eq_true_eq,decide_eq_false_iff_not] at h ⊢;omega
 trans x y z h1 h2:=by
  have a:=ic.tr (i4 x) (i4 y) (i4 z)
  have b:=ic.anti (i4 x) (i4 y)
  have c:=ic.anti (i4 y) (i4 z)
  have d:=ic.anti (i4 x) (i4 z)
  simp only[yi,decide_eq_false_iff_not] at h1 h2 ⊢;omega }
theorem yR (l:List Scan):TE.real.d_Scan l=(l.map nK).map nD:=by
 rw[List.map_map];rfl
theorem Eo (l:List Scan):TE.real.r_Scan l=(l.map nK).map sM:=by
 rw[List.map_map];rfl
theorem Fc (l:List Scan) (i j:Nat) (x y:List Value) (h1:(l.map nK)[i]?=some x) (h2:(l.map nK)[j]?=some y):Fn Tryz.prog 92 [.c (.v (.int .i64 i)),.c (.v (.int .i64 j)),.q [.s 6 ((l.map nK).map sM)]] (.c (.r (.v (.bool (yi x y))))):=by
 rw[List.getElem?_map] at h1 h2
 obtain⟨a,a1,rfl⟩:=Option.map_eq_some_iff.1 h1
 obtain⟨b,b1,rfl⟩:=Option.map_eq_some_iff.1 h2
 rw[←Eo]
 refine p6 rfl rfl ?_
 have ai:i<l.length:=(List.getElem?_eq_some_iff.1 a1).1
 have bi:j<l.length:=(List.getElem?_eq_some_iff.1 b1).1
 unfold jt
 simp only[bo,Int.toNat_natCast,dc,aN,H1]
 rw[ag (by omega),ar a1,ag (by omega),ar b1]
 rfl
def om (g:G) (t:TE) (a0:List Scan):Option (List Scan):=gd (a0.length<1152921504606846976)<|some (a0.mergeSort leS)
theorem vh {g:G} {t:TE} {a0 r:List Scan} (h:om g t a0=some r):r.length=a0.length:=by
 obtain⟨_,h⟩:=aj h
 cases h
 exact List.length_mergeSort _
theorem xY {g:G} {t:TE} {a0 r:List Scan} (hg:g=G.real) (ht:t=TE.real) (h:om g t a0=some r):CT Tryz.prog 79 33 92 6 (t.d_Scan a0) (t.d_Scan r):=by
 obtain⟨hl,h⟩:=aj h;cases h
 subst ht;rw[yR,yR]
 have h:=Gu (enc:=nK) (lt:=yi) Tryz.lays8 33 59 Tryz.ssT Tryz.ssE Tryz.ss1 Tryz.ss2 Tryz.ss3 Tryz.ss4 25 Tryz.ss5 6 (by decide) Tryz.ss6 Tryz.ss7 FO 92 Tryz.ss8 169 Tryz.ss11 Tryz.ss12 false Tryz.ss10
  (fun a=>⟨rfl,fun v hv=>by simp only[nK,List.mem_cons,List.not_mem_nil,or_false] at hv;rcases hv with rfl|rfl|rfl|rfl|rfl|rfl<;>rfl⟩) Fc a0 (a0.mergeSort leS) hl (List.length_mergeSort _)
  (wm (enc:=nK) (lt:=yi) (le:=leS) (d0:=[]) (fun a b=>by unfold yi leS;rw[t9,t9,Bool.not_not]) Ca Dq F6 a0)
 rw[Tryz.ssN] at h;exact h
set_option maxRecDepth 100000
def Hu:J:=js [jq 3 (.box 0),jm 6 kf] [1,2,3] (js [jl 7 3 3,jc 8 54 [7],jm 9 8,ju 10 9 (.ld true 3 3),ju 11 9 (.mv 1),ju 12 9 (.mv 2),ju 13 9 (.call 100 true [10,11,12]),jq 14 (.pick 9 13 kf),jm 6 14] [6] .ret)
def G8:List RV:=[.t 6]
open Go.Proofs Go.IntWalk
set_option maxHeartbeats 4000000
def nP (g:G) (t:TE) (a0:Network) (a1:Int) (a2:Int):Option Bool:=
 cl (cN g t a0) fun x1=>
 br x1
 (
  cl (kS g t a0 a1 a2) fun x2=>
  some x2)
 (
  some false)
theorem xW {g:G} {t:TE} {a0:Network} {a1:Int} {a2:Int} {r:Bool} (hg:g=G.real) (ht:t=TE.real) (h:nP g t a0 a1 a2=some r):Fn Tryz.prog 131 [.g (Network.rs t a0),.c (.v (.int .i64 a1)),.c (.v (.int .i64 a2))] (.c (.r (.v (.bool r)))):=by
 obtain⟨X,hX⟩:=aC (.c (.r (.v (.bool r))):X);rw[←hX];refine ay (rvs:=G8) (j:=Hu) Tryz.func131 rfl (by kernel_rfl) (nb rfl) (by kernel_rfl) ac ?_;intro g2 F hg2 hF;obtain rfl:g2=g:=hg2.unique.trans hg.symm;clear hg2;obtain⟨_⟩:=g2;obtain⟨_⟩:=t
 obtain⟨a0_Legs,a0_Off,a0_Change⟩:=a0;unfold nP at h;try dsimp only at h
 cbv;obtain⟨x1,hx1,h⟩:=af h;try dsimp only at h
 refine ACall.mk _ _ rfl (hF _ _ _ (fm hg ht hx1)) (.inl rfl) (nb rfl) ?_;cbv
 cases hb1:x1
 ·rw[aa hb1] at h;cbv;iterate 4 try(rw[hb1];cbv)
  obtain rfl:=Option.some.inj h;exact ARet.mk trivial hX.symm
 rw[ab hb1] at h;cbv;iterate 3 try(rw[hb1];cbv)
 obtain⟨x2,hx2,h⟩:=af h;try dsimp only at h
 refine ACall.mk _ _ rfl (hF _ _ _ (nt hg ht hx2)) (.inl rfl) (nb rfl) ?_;cbv;try(rw[hb1];cbv)
 obtain rfl:=Option.some.inj h;exact ARet.mk trivial hX.symm
def ir76:J:=js [jq 2 (.box 0),jq 3 (.box 1),jm 4 kf] [2,3] (js [jl 5 3 2,jf 6 0 3,jk 7 6,jf 8 1 3,jk 9 8,jc 10 131 [5,7,9],jm 4 10] [4] .ret)
def rv76:List RV:=[.t 4]
def ge (g:G) (t:TE) (a0:Network) (a1:Trip):Option Bool:=
 cl (nP g t a0 a1.Leg a1.Day) fun x1=>
 some x1
theorem kB {g:G} {t:TE} {a0:Network} {a1:Trip} {r:Bool} (hg:g=G.real) (ht:t=TE.real) (h:ge g t a0 a1=some r):Fn Tryz.prog 76 [.g (Network.rs t a0),.g (Trip.rs t a1)] (.c (.r (.v (.bool r)))):=by
 obtain⟨X,hX⟩:=aC (.c (.r (.v (.bool r))):X);rw[←hX];refine ay (rvs:=rv76) (j:=ir76) Tryz.func76 rfl (by kernel_rfl) (nb rfl) (by kernel_rfl) ac ?_;intro g2 F hg2 hF;obtain rfl:g2=g:=hg2.unique.trans hg.symm;clear hg2;obtain⟨_⟩:=g2;obtain⟨_⟩:=t
 obtain⟨a0_Legs,a0_Off,a0_Change⟩:=a0;obtain⟨a1_Leg,a1_Day⟩:=a1;unfold ge at h;try dsimp only at h
 cbv;obtain⟨x1,hx1,h⟩:=af h;try dsimp only at h
 refine ACall.mk _ _ rfl (hF _ _ _ (xW hg ht hx1)) (.inl rfl) (nb rfl) ?_;cbv;obtain rfl:=Option.some.inj h;exact ARet.mk trivial hX.symm
def ir91 (s_k0:ByteArray):J:=js [jq 2 (.box 0),jq 3 (.box 1),jm 4 kf] [2,3] (.seq (js [jl 5 3 2,jc 6 54 [5],jq 7 (.not 6),jm 8 7,jv 9 8 (.fa 0 3),jv 10 8 (.ld false 1 9),jv 11 8 (.call 87 true [10,(ki 1),(ki 9999)]),jv 12 8 (.not 11),jq 13 (.pick 8 kt 12),jm 14 13,jv 15 14 (.fa 1 3),jv 16 14 (.ld false 1 15),jv 17 14 (.call 87 true [16,(ki 0),(ki 100000)]),jv 18 14 (.not 17),jq 19 (.pick 14 kt 18)] [2,3,19] (.cond 19 (js [jm 4 kf] [4] .ret) .skip)) (.seq (js [jf 20 2 3,jk 21 20] [2,3,21] (.block 0 (.seq (js [jb 23 .eql .i 21 (ki 1),jm 22 23] [2,3,21,22] (.cond 22 .skip (.reg none [jb 24 .eql .i 21 (ki 4),jm 22 24] [2,3,21,22]))) (.cond 22 (.seq (.reg (some [[],[0],[],[2],[0,1,2,3],[0,1,2,3,4],[0,1,2,3,4,5],[0,1,2,3,4,5,6],[0,1,2,3,4,5,6,7],[0,1,2,3,4,5,6],[0,1,2,3,4,5,6,7,8,9],[0,1,2,3,4,5,6,7,8,9,10],[0,1,2,3,4,5,6,7,8,9,10,11]]) [jl 25 3 2,jc 26 82 [25],jf 27 3 3,jk 28 27,jc 29 84 [26,28],jb 30 .geq .i 29 (ki 0),jm 31 30,ju 32 31 (.fa 4 3),ju 33 31 (.ld true 2 32),ju 34 31 (.bld [.r (.v (.int .i64 0)),.r (.v (.int .i64 0))] []),ju 35 31 (.eqs false [.i,.i] 33 34),jq 36 (.pick 31 35 kf),jm 4 36] [4]) .ret) (js [jb 38 .eql .i 21 (ki 3),jm 37 38] [2,3,21,37] (.cond 37 (.seq (.reg (some [[],[0],[0,1],[0,1,2],[0,1,2,3],[0,1,2,3],[0,1,2,3,5],[0,1,2,3,4,5,6],[0,1,2,3,4,5,6,7],[0,1,2,3,4,5,6,7,8],[0,1,2,3,4,5,6,7,8,9],[0,1,2,3,4,5,6,7,8,9,10],[0,1,2,3,4,5,6,7,8,9],[0,1,2,3,4,5,6,7,8,9],[0,1,2,3,4,5,6,7,8,9,13],[0,1,2,3,4,5,6,7,8,9,12,13,14],[0,1,2,3,4,5,6,7,8,9,10,11,12,13,14,15],[0,1,2,3,4,5,6,7,8,9,10,11,12,13,14,15,16],[0,1,2,3,4,5,6,7,8,9,10,11,12,13,14,15,16,17]]) [jf 39 3 3,jk 40 39,jq 41 (.bin .eql .s 40 (.k (.c (.r (.v (.string s_k0)))))),jm 42 41,ju 43 42 (.ld true 3 2),ju 44 42 (.fa 4 3),ju 45 42 (.ld true 2 44),ju 46 42 (.call 76 true [43,45]),jq 47 (.pick 42 46 kf),jm 48 47,ju 49 48 (.fa 1 3),ju 50 48 (.ld false 1 49),ju 51 48 (.ld true 3 2),ju 52 48 (.fa 4 3),ju 53 48 (.ld true 2 52),ju 54 48 (.call 85 true [51,53]),ju 55 48 (.bin .leq .i 50 54),jq 56 (.pick 48 55 kf),jm 4 56] [4]) .ret) (js [jb 58 .eql .i 21 (ki 2),jm 57 58] [2,3,57] (.cond 57 (.seq (.reg (some [[],[0],[0,1],[0,1,2],[0,1,2,3],[0,1,2,3],[0,1,2,3,5],[0,1,2,3,4,5,6],[0,1,2,3,4,5,6,7],[0,1,2,3,4,5,6,7,8],[0,1,2,3,4,5,6,7,8,9],[0,1,2,3,4,5,6,7,8,9,10],[0,1,2,3,4,5,6,7,8,9],[0,1,2,3,4,5,6,7,8,9],[0,1,2,3,4,5,6,7,8,9,13],[0,1,2,3,4,5,6,7,8,9,12,13,14],[0,1,2,3,4,5,6,7,8,9,10,11,12,13,14,15],[0,1,2,3,4,5,6,7,8,9,10,11,12,13,14,15,16],[0,1,2,3,4,5,6,7,8,9,10,11,12,13,14,15,16,17]]) [jf 59 3 3,jk 60 59,jq 61 (.bin .eql
 .s 60 (.k (.c (.r (.v (.string s_k0)))))),jm 62 61,ju 63 62 (.ld true 3 2),ju 64 62 (.fa 4 3),ju 65 62 (.ld true 2 64),ju 66 62 (.call 76 true [63,65]),jq 67 (.pick 62 66 kf),jm 68 67,ju 69 68 (.fa 1 3),ju 70 68 (.ld false 1 69),ju 71 68 (.ld true 3 2),ju 72 68 (.fa 4 3),ju 73 68 (.ld true 2 72),ju 74 68 (.call 86 true [71,73]),ju 75 68 (.bin .geq .i 70 74),jq 76 (.pick 68 75 kf),jm 4 76] [4]) .ret) .skip)))))))) (js [jm 4 kf] [4] .ret)))
def rv91:List RV:=[.t 4]
def fh (g:G) (t:TE) (a0:Network) (a1:Scan):Option Bool:=
 cl (cN g t a0) fun x1=>
 br x1
 (
  lP (dO g t a1.Thing 1 9999) fun x2=>
  br x2
  (
   lP (dO g t a1.At 0 100000) fun x3=>
   br x3
   (
    br (g.eq a1.Kind 1)
    (
     cl (dH g t a0) fun x4=>
     lP (cD g t x4 a1.Place) fun x5=>
     br (g.le 0 x5)
     (
      some (g.all [(g.eq a1.Trip.Leg 0),(g.eq a1.Trip.Day 0)]))
     (
      some false))
    (
     br (g.eq a1.Kind 4)
     (
      cl (dH g t a0) fun x6=>
      lP (cD g t x6 a1.Place) fun x7=>
      br (g.le 0 x7)
      (
       some (g.all [(g.eq a1.Trip.Leg 0),(g.eq a1.Trip.Day 0)]))
      (
       some false))
     (
      br (g.eq a1.Kind 3)
      (
       br (g.seq a1.Place str_k0)
       (
        cl (ge g t a0 (Trip.mk a1.Trip.Leg a1.Trip.Day)) fun x8=>
        br x8
        (
         cl (bK g t a0 (Trip.mk a1.Trip.Leg a1.Trip.Day)) fun x9=>
         some (g.le a1.At x9))
        (
         some false))
       (
        some false))
      (
       br (g.eq a1.Kind 2)
       (
        br (g.seq a1.Place str_k0)
        (
         cl (ge g t a0 (Trip.mk a1.Trip.Leg a1.Trip.Day)) fun x10=>
         br x10
         (
          cl (ew g t a0 (Trip.mk a1.Trip.Leg a1.Trip.Day)) fun x11=>
          some (g.le x11 a1.At))
         (
          some false))
        (
         some false))
       (
        some false)))))
   (
    some false))
  (
   some false))
 (
  some false)
theorem gG {g:G} {t:TE} {a0:Network} {a1:Scan} {r:Bool} (hg:g=G.real) (ht:t=TE.real) (h:fh g t a0 a1=some r):Fn Tryz.prog 91 [.g (Network.rs t a0),.g (Scan.rs t a1)] (.c (.r (.v (.bool r)))):=by
 obtain⟨X,hX⟩:=aC (.c (.r (.v (.bool r))):X);rw[←hX];refine ay (rvs:=rv91) (j:=(ir91 str_k0)) Tryz.func91 rfl (by kernel_rfl) (nb rfl) (by kernel_rfl) ac ?_;intro g2 F hg2 hF;obtain rfl:g2=g:=hg2.unique.trans hg.symm;clear hg2;obtain⟨_,_,le,eq,_,_,_,_,_,_,_,_,_,_,_,_,_,seq,_,_,_,_,_,_,dlen,_,_,_,rd⟩:=g2;obtain⟨_,_,_,_,_,_,_,_,_,_,_,_,r_S,d_S⟩:=t
 obtain⟨a0_Legs,a0_Off,a0_Change⟩:=a0;obtain⟨a1_Thing,a1_At,a1_Kind,a1_Place,⟨a1_Trip_Leg,a1_Trip_Day⟩⟩:=a1;unfold fh at h;try dsimp only at h
 obtain⟨s_k0,hs_k0⟩:∃s,str_k0=s:=⟨_,rfl⟩;try rw[hs_k0] at h
 rw[hs_k0];cbv;obtain⟨x1,hx1,h⟩:=af h;try dsimp only at h
 refine ACall.mk _ _ rfl (hF _ _ _ (fm hg ht hx1)) (.inl rfl) (nb rfl) ?_;cbv
 cases hb1:x1
 ·rw[aa hb1] at h;cbv;iterate 4 try(rw[hb1];cbv)
  obtain rfl:=Option.some.inj h;exact ARet.mk trivial hX.symm
 rw[ab hb1] at h;cbv;iterate 2 try(rw[hb1];cbv)
 obtain⟨x2,hx2,h⟩:=ah h;try dsimp only at h
 refine ACall.mk _ _ rfl (hF _ _ _ (d8 hg ht hx2)) (.inl rfl) (nb rfl) ?_;cbv;iterate 2 try(rw[hb1];cbv)
 cases hb2:x2
 ·rw[aa hb2] at h;cbv;iterate 4 try(rw[hb2];cbv)
  obtain rfl:=Option.some.inj h;exact ARet.mk trivial hX.symm
 rw[ab hb2] at h;cbv;iterate 2 try(rw[hb2];cbv)
 obtain⟨x3,hx3,h⟩:=ah h;try dsimp only at h
 refine ACall.mk _ _ rfl (hF _ _ _ (d8 hg ht hx3)) (.inl rfl) (nb rfl) ?_;cbv;iterate 2 try(rw[hb2];cbv)
 cases hb3:x3
 ·rw[aa hb3] at h;cbv;obtain rfl:=Option.some.inj h;exact ARet.mk trivial hX.symm
 rw[ab hb3] at h;cbv
 cases hb4:(eq a1_Kind 1)
 rotate_left
 ·rw[ab hb4] at h;cbv;try(rw[hb4];cbv)
  obtain⟨x4,hx4,h⟩:=af h;try dsimp only at h
  refine ACall.mk _ _ rfl (hF _ _ _ (eZ hg ht hx4)) (.inl rfl) (nb rfl) ?_;cbv;refine AStep.mk (en ht (ap hg ht _)) ?_;cbv;obtain⟨x5,hx5,h⟩:=ah h;try dsimp only at h
  refine ACall.mk _ _ (by rw[show rd (d_S x4) 0 (dlen (d_S x4))=r_S x4 from gp hg ht (ap hg ht _)];try rfl) (hF _ _ _ (dh hg ht hx5)) (.inr rfl) (nb rfl) ?_
  cbv
  cases hb5:(le 0 x5)
  rotate_left
  ·rw[ab hb5] at h;cbv;iterate 4 try(rw[hb5];cbv)
   obtain rfl:=Option.some.inj h;exact ARet.mk trivial hX.symm
  rw[aa hb5] at h;cbv;iterate 4 try(rw[hb5];cbv)
  obtain rfl:=Option.some.inj h;exact ARet.mk trivial hX.symm
 rw[aa hb4] at h;cbv
 cases hb6:(eq a1_Kind 4)
 rotate_left
 ·rw[ab hb6] at h;cbv;obtain⟨x6,hx6,h⟩:=af h;try dsimp only at h
  refine ACall.mk _ _ rfl (hF _ _ _ (eZ hg ht hx6)) (.inl rfl) (nb rfl) ?_;cbv;refine AStep.mk (en ht (ap hg ht _)) ?_;cbv;obtain⟨x7,hx7,h⟩:=ah h;try dsimp only at h
  refine ACall.mk _ _ (by rw[show rd (d_S x6) 0 (dlen (d_S x6))=r_S x6 from gp hg ht (ap hg ht _)];try rfl) (hF _ _ _ (dh hg ht hx7)) (.inr rfl) (nb rfl) ?_
  cbv
  cases hb7:(le 0 x7)
  rotate_left
  ·rw[ab hb7] at h;cbv;iterate 4 try(rw[hb7];cbv)
   obtain rfl:=Option.some.inj h;exact ARet.mk trivial hX.symm
  rw[aa hb7] at h;cbv;iterate 4 try(rw[hb7];cbv)
  obtain rfl:=Option.some.inj h;exact ARet.mk trivial hX.symm
 rw[aa hb6] at h;cbv
 cases hb8:(eq a1_Kind 3)
 rotate_left
 ·rw[ab hb8] at h;cbv
  cases hb9:(seq a1_Place s_k0)
  ·rw[aa hb9] at h;cbv;iterate 4 try(rw[hb9];cbv)
   obtain rfl:=Option.some.inj h;exact ARet.mk trivial hX.symm
  rw[ab hb9] at h;cbv;iterate 3 try(rw[hb9];cbv)
  obtain⟨x8,hx8,h⟩:=af h;try dsimp only at h
  refine ACall.mk _ _ rfl (hF _ _ _ (kB hg ht hx8)) (.inl rfl) (nb rfl) ?_;cbv;try(rw[hb9];cbv)
  cases hb10:x8
  ·rw[aa hb10] at h;cbv;iterate 7 try(rw[hb10];cbv)
   obtain rfl:=Option.some.inj h;exact ARet.mk trivial hX.symm
  rw[ab hb10] at h;cbv;iterate 5 try(rw[hb10];cbv)
  obtain⟨x9,hx9,h⟩:=af h;try dsimp only at h
  refine ACall.mk _ _ rfl (hF _ _ _ (bX hg ht hx9)) (.inl rfl) (nb rfl) ?_;cbv;iterate 2 try(rw[hb10];cbv)
  obtain rfl:=Option.some.inj h;exact ARet.mk trivial hX.symm
 rw[aa hb8] at h;cbv
 cases hb11:(eq a1_Kind 2)
 ·rw[aa hb11] at h;cbv;obtain rfl:=Option.some.inj h;exact ARet.mk trivial hX.symm
 rw[ab hb11] at h;cbv
 cases hb12:(seq a1_Place s_k0)
 ·rw[aa hb12] at h;cbv;iterate 4 try(rw[hb12];cbv)
  obtain rfl:=Option.some.inj h;exact ARet.mk trivial hX.symm
 rw[ab hb12] at h;cbv;iterate 3 try(rw[hb12];cbv)
 obtain⟨x10,hx10,h⟩:=af h;try dsimp only at h
 refine ACall.mk _ _ rfl (hF _ _ _ (kB hg ht hx10)) (.inl rfl) (nb rfl) ?_;cbv;try(rw[hb12];cbv)
 cases hb13:x10
 ·rw[aa hb13] at h;cbv;iterate 7 try(rw[hb13];cbv)
  obtain rfl:=Option.some.inj h;exact ARet.mk trivial hX.symm
 rw[ab hb13] at h;cbv;iterate 5 try(rw[hb13];cbv)
 obtain⟨x11,hx11,h⟩:=af h;try dsimp only at h
 refine ACall.mk _ _ rfl (hF _ _ _ (ee hg ht hx11)) (.inl rfl) (nb rfl) ?_;cbv;iterate 2 try(rw[hb13];cbv)
 obtain rfl:=Option.some.inj h;exact ARet.mk trivial hX.symm
def ir35:J:=js [jq 2 (.box 0),jq 4 (.mv (.k (.c (.n 6))))] [1,2] (js [jq 11 (.bsl 6 []),jq 5 (.alloc [.n 6]),jp (.st 1 5 11)] [1,2,5] (.seq (js [jm 12 1,jm 13 1,jq 14 (.len false 13),jq 15 (.mnx false 14 (ki 200)),jq 16 (.sl 6 12 none (some 15)),jq 17 (.len false 16),jm 18 (ki 0)] [2,5,16,17,18] (.bl 0 (js [jb 19 .lss .i 18 17] [2,5,16,17,18,19] (.seq (.cond 19 .skip (.exit 0)) (.seq (.block 1 (js [ja 20 6 16 18,jl 21 6 20,jq 7 (.alloc [.r (.v (.int .i64 0)),.r (.v (.int .i64 0)),.r (.v (.int .i64 0)),.r (.v (.string .empty)),.r (.v (.int .i64 0)),.r (.v (.int .i64 0))]),jp (.st 6 7 21)] [2,5,7,16,17,18] (js [jl 22 3 2,jl 23 6 7,jc 24 91 [22,23]] [2,5,7,16,17,18,24] (.cond 24 (.reg none [jk 25 5,jl 26 6 7,jq 27 (.bsl 6 [26]),jq 28 (.app 6 56 true 25 27),jp (.st 1 5 28)] [2,5,16,17,18]) .skip)))) (.reg none [jb 29 .add .i 18 (ki 1),jm 18 29] [2,5,16,17,18])))))) (js [jk 30 5,jq 31 (.ifc 33 30),jq 32 (.clo true 92 [5]),jq 33 (.sst 79 31 32)] [5] (js [jq 34 (.bsl 6 []),jm 8 34] [5,8] (.seq (js [jk 35 5,jq 36 (.len false 35),jm 37 (ki 0)] [5,8,35,36,37] (.bl 2 (js [jb 38 .lss .i 37 36] [5,8,35,36,37,38] (.seq (.cond 38 .skip (.exit 2)) (.seq (.block 3 (js [jm 39 37,ja 40 6 35 37,jl 41 6 40,jq 10 (.alloc [.r (.v (.int .i64 0)),.r (.v (.int .i64 0)),.r (.v (.int .i64 0)),.r (.v (.string .empty)),.r (.v (.int .i64 0)),.r (.v (.int .i64 0))]),jm 9 39,jp (.st 6 10 41)] [5,8,9,10,35,36,37] (.seq (.reg (some [[],[0],[0,1],[0,1,2],[0,1,2],[0,1,2,4],[0,1,2,3,4,5],[0,1,2,3,4,5,6],[0,1,2],[0,1,2,3,4,5,6,7,8],[0,1,2,3,4,5,6,7,8,9]]) [jm 42 9,jb 43 .eql .i 42 (ki 0),jm 44 43,jv 45 44 (.ld false 1 5),jv 46 44 (.mv 9),jv 47 44 (.bin .sub .i 46 (ki 1)),jv 48 44 (.ia 6 45 47),jv 49 44 (.ld true 6 48),jv 50 44 (.ld true 6 10),jv 51 44 (.eqs true [.i,.i,.i,.s,.i,.i] 49 50),jq 52 (.pick 44 kt 51)] [5,8,10,35,36,37,52]) (.cond 52 (.reg none [jm 53 8,jl 54 6 10,jq 55 (.bsl 6 [54]),jq 56 (.app 6 56 true 53 55),jm 8 56] [5,8,35,36,37]) .skip)))) (.reg none [jb 57 .add .i 37 (ki 1),jm 37 57] [5,8,35,36,37])))))) (js [jm 58 8,jm 4 58] [4] .ret))))))
def rv35:List RV:=[.t 4]
def bw (g:G) (t:TE) (l5:List Scan):Nat→Int→List Scan→Option (List Scan)
 |0,v2,w2=>
  some w2
 |n2+1,v2,w2=>
  gd (((0:Int)≤v2∧v2<(((g.dlen (t.d_Scan l5)):Nat):Int)))<|
  gt l5 (g.nat v2) fun x2=>
  br (g.eq v2 0)
  (
   lP ([(Scan.mk x2.Thing x2.At x2.Kind x2.Place (Trip.mk x2.Trip.Leg x2.Trip.Day))]) fun(l7:List Scan)=>
   gd (((w2.length+l7.length)*56≤70368744177664))<|
   lP (w2++l7) fun(l8:List Scan)=>
   bw g t l5 n2 (g.wrap .i64 (g.add v2 1)) l8)
  (
   gd (((0:Int)≤(g.wrap .i64 (g.sub v2 1))∧(g.wrap .i64 (g.sub v2 1))<(((g.dlen (t.d_Scan l5)):Nat):Int)))<|
   gt l5 (g.nat (g.wrap .i64 (g.sub v2 1))) fun x3=>
   br (g.all [(g.eq x3.Thing x2.Thing),(g.eq x3.At x2.At),(g.eq x3.Kind x2.Kind),(g.seq x3.Place x2.Place),(g.eq x3.Trip.Leg x2.Trip.Leg),(g.eq x3.Trip.Day x2.Trip.Day)])
   (
    bw g t l5 n2 (g.wrap .i64 (g.add v2 1)) w2)
   (
    lP ([(Scan.mk x2.Thing x2.At x2.Kind x2.Place (Trip.mk x2.Trip.Leg x2.Trip.Day))]) fun(l9:List Scan)=>
    gd (((w2.length+l9.length)*56≤70368744177664))<|
    lP (w2++l9) fun(l10:List Scan)=>
    bw g t l5 n2 (g.wrap .i64 (g.add v2 1)) l10))
def bN (g:G) (t:TE) (a0:Network):List Scan→List Scan→Option (List Scan)
 |[],w1=>
  some w1
 |z1::ls1,w1=>
  cl (fh g t a0 (Scan.mk z1.Thing z1.At z1.Kind z1.Place (Trip.mk z1.Trip.Leg z1.Trip.Day))) fun x1=>
  br x1
  (
   lP ([(Scan.mk z1.Thing z1.At z1.Kind z1.Place (Trip.mk z1.Trip.Leg z1.Trip.Day))]) fun(l3:List Scan)=>
   gd (((w1.length+l3.length)*56≤70368744177664))<|
   lP (w1++l3) fun(l4:List Scan)=>
   bN g t a0 ls1 l4)
  (
   bN g t a0 ls1 w1)
def hC (g:G) (t:TE) (a0:Network) (a1:List Scan):Option (List Scan):=
 lP ([]) fun(l1:List Scan)=>
 gd (((0:Int)≤0∧0≤(g.imin (g.llen (t.r_Scan a1)) 200)∧(g.imin (g.llen (t.r_Scan a1)) 200)≤((((t.r_Scan a1).length):Nat):Int)))<|
 lP (List.drop (g.nat 0) (List.take (g.nat (g.imin (g.llen (t.r_Scan a1)) 200)) a1)) fun(l2:List Scan)=>
 cl (bN g t a0 l2 l1) fun y1=>
 cl (om g t y1) fun(l5:List Scan)=>
 lP ([]) fun(l6:List Scan)=>
 gd (((g.int (g.dlen (t.d_Scan y1)))≤9223372036854775807))<|
 cl (bw g t l5 (aA 0 (g.int (g.dlen (t.d_Scan y1)))) 0 l6) fun y2=>
 some y2
theorem sP {g:G} {t:TE} {a0:Network} {a1:List Scan} {r:List Scan} (hg:g=G.real) (ht:t=TE.real) (h:hC g t a0 a1=some r):Fn Tryz.prog 35 [.g (Network.rs t a0),.c (.s 6 (t.r_Scan a1))] (.c (.o 6 (t.d_Scan r))):=by
 obtain⟨X,hX⟩:=aC (.c (.o 6 (t.d_Scan r)):X);rw[←hX];refine ay (rvs:=rv35) (j:=ir35) Tryz.func35 rfl (by kernel_rfl) (nb rfl) (by kernel_rfl) ac ?_;intro g2 F hg2 hF;obtain rfl:g2=g:=hg2.unique.trans hg.symm;clear hg2;obtain⟨wrap,lt,_,eq,_,_,_,_,_,_,_,_,int,add,_,_,_,seq,_,_,_,llen,_,_,dlen,_,_,_,_,_,_,_,_,all⟩:=g2;obtain⟨_,_,r_Scan,d_Scan,r_Leg,_,r_I64⟩:=t
 obtain⟨a0_Legs,a0_Off,a0_Change⟩:=a0;unfold hC at h;try dsimp only at h
 cbv;obtain⟨l1,hl1,h⟩:=ah h;try dsimp only at h
 refine ANew.mk (d_Scan l1) (dlen (d_Scan l1)) (by rw[←hl1];exact cG hg ht []) (by rw[←hl1];exact bV hg ht []) ?_;cbv;obtain⟨hc1,h⟩:=aj h;refine AStep.mk hc1 ?_;cbv;obtain⟨l2,hl2,h⟩:=ah h;try dsimp only at h
 refine AVal.mk (r_Scan l2) (by rw[←hl2];exact Au hg ht _ _ _) ?_;cbv;obtain⟨o1,ho1,h⟩:=af h;try dsimp only at h
 try rw[hg] at ho1
 try rw[ht] at ho1
 refine ABL.mk {p:Nat×Int×List Scan//p.1≤l2.length∧p.2.1=((p.1:Nat):Int)∧bN G.real TE.real (Network.mk a0_Legs a0_Off a0_Change) (List.drop p.1 l2) p.2.2=some o1} (fun⟨⟨k1,v1,w1⟩,_⟩=>({sl:=[(2,.c (.p 0 3 0 0)),(5,.c (.p 1 1 0 0)),(16,.c (.r (.s 6 (r_Scan l2)))),(17,.c (.r (.v (.int .i64 (llen (r_Scan l2)))))),(18,.c (.r (.v (.int .i64 v1))))],tab:=[(0,some (.foc 3 [] [.r (.s 6 (r_Leg a0_Legs)),.r (.s 1 (r_I64 a0_Off)),.r (.v (.int .i64 a0_Change))] [])),(1,some (.foc 1 [] [.f 2 6 0 (dlen (d_Scan w1))] [])),(2,some (.arr 6 (d_Scan w1)))]}:St)) 3 (fun p=>l2.length-p.1.1) ⟨(0,0,l1),Nat.zero_le _,rfl,ho1⟩ (List Scan) (fun y1=>({sl:=[(5,.c (.p 0 1 0 0))],tab:=[(0,some (.foc 1 [] [.f 1 6 0 (dlen (d_Scan y1))] [])),(1,some (.arr 6 (d_Scan y1)))]}:St)) 2 (fun y=>o1=y) ?_ ?_ ?_
 ·refine Wk.of [(0,some 0),(1,some 48),(2,some 32)] rfl rfl ?_ ?_
  ·cbv;all_goals exact⟨⟨_,rfl,rfl⟩,⟨_,rfl,rfl⟩,⟨_,rfl,rfl⟩,⟨_,rfl,rfl⟩,⟨_,rfl,rfl⟩,trivial⟩
  cbv;all_goals exact⟨⟨_,rfl,_,rfl,rfl,rfl,rfl,trivial⟩,⟨_,rfl,_,rfl,rfl,trivial⟩,⟨_,rfl,rfl⟩,trivial⟩
 ·rintro⟨⟨k1,v1,w1⟩,hk1,hi1,h_1⟩ hq1;have hm1:=(hq1.1 16 _ _ rfl);try dsimp only at hk1 hi1 h_1
  clear hq1;cbv
  by_cases hc1_:k1<l2.length
  ·have hb1:lt v1 (llen (r_Scan l2))=true:=jh hg ht hi1 hc1_;have hs1:=mN hg ht hi1 hc1_ hm1;obtain⟨z1,hz1⟩:=aG hc1_;rw[ax hz1] at h_1;rw[bN] at h_1;obtain⟨z1_Thing,z1_At,z1_Kind,z1_Place,⟨z1_Trip_Leg,z1_Trip_Day⟩⟩:=z1;try rw[←hg] at h_1
   try rw[←ht] at h_1
   try dsimp only at h_1
   rw[hb1];cbv;refine AStep.mk (ez hi1) ?_;cbv;refine AGet.mk _ (iZ hg ht hi1 hz1) ?_;cbv;obtain⟨x1,hx1,h_1⟩:=af h_1;try dsimp only at h_1
   refine ACall.mk _ _ rfl (hF _ _ _ (gG hg ht hx1)) (.inl rfl) (nb rfl) ?_;cbv
   cases hb2:x1
   ·rw[aa hb2] at h_1;cbv;try rw[hg] at h_1
    try rw[ht] at h_1
    refine⟨⟨(k1+1,(wrap .i64 (add v1 1)),w1),hc1_,hs1,h_1⟩,Wk.of [(0,some 0),(1,some 1),(2,some 2)] rfl rfl ?_ ?_,aK hc1_⟩
    ·cbv;all_goals exact⟨⟨_,rfl,rfl⟩,⟨_,rfl,rfl⟩,⟨_,rfl,rfl⟩,⟨_,rfl,rfl⟩,⟨_,rfl,rfl⟩,trivial⟩
    cbv;all_goals exact⟨⟨_,rfl,_,rfl,rfl,rfl,rfl,trivial⟩,⟨_,rfl,_,rfl,rfl,trivial⟩,⟨_,rfl,rfl⟩,trivial⟩
   rw[ab hb2] at h_1;cbv;obtain⟨l3,hl3,h_1⟩:=ah h_1;try dsimp only at h_1
   refine ANew.mk (d_Scan l3) (dlen (d_Scan l3)) (by rw[←hl3];exact cG hg ht [(Scan.mk z1_Thing z1_At z1_Kind z1_Place (Trip.mk z1_Trip_Leg z1_Trip_Day))]) (by rw[←hl3];exact bV hg ht [(Scan.mk z1_Thing z1_At z1_Kind z1_Place (Trip.mk z1_Trip_Leg z1_Trip_Day))]) ?_;cbv;obtain⟨hc2,h_1⟩:=aj h_1;refine AStep.mk ⟨⟨rfl,(ao hg ht _)⟩,(cX hg ht (ao hg ht _) rfl hc2)⟩ ?_;cbv;obtain⟨l4,hl4,h_1⟩:=ah h_1;try dsimp only at h_1
   refine ANew.mk (d_Scan l4) (dlen (d_Scan l4)) (by rw[←hl4];exact ff hg ht (ao hg ht _) rfl) (by rw[←hl4];exact ek hg ht (ao hg ht _) rfl) ?_;cbv;try rw[hg] at h_1
   try rw[ht] at h_1
   refine⟨⟨(k1+1,(wrap .i64 (add v1 1)),l4),hc1_,hs1,h_1⟩,Wk.of [(0,some 0),(1,some 1),(2,some 179)] rfl rfl ?_ ?_,aK hc1_⟩
   ·cbv;all_goals exact⟨⟨_,rfl,rfl⟩,⟨_,rfl,rfl⟩,⟨_,rfl,rfl⟩,⟨_,rfl,rfl⟩,⟨_,rfl,rfl⟩,trivial⟩
   cbv;all_goals exact⟨⟨_,rfl,_,rfl,rfl,rfl,rfl,trivial⟩,⟨_,rfl,_,rfl,rfl,trivial⟩,⟨_,rfl,rfl⟩,trivial⟩
  have hb1:lt v1 (llen (r_Scan l2))=false:=iT hg ht hi1 hc1_;rw[List.drop_of_length_le (Nat.le_of_not_lt hc1_)] at h_1;rw[bN] at h_1;try rw[←hg] at h_1
  try rw[←ht] at h_1
  try dsimp only at h_1
  rw[hb1];cbv;refine⟨w1,Wk.of [(0,some 1),(1,some 2)] rfl rfl ?_ ?_,(Option.some.inj h_1).symm⟩
  ·cbv;all_goals exact⟨⟨_,rfl,rfl⟩,trivial⟩
  cbv;all_goals exact⟨⟨_,rfl,_,rfl,rfl,trivial⟩,⟨_,rfl,rfl⟩,trivial⟩
 rintro y1 hy1;replace hy1:=hy1.symm;subst hy1;try dsimp only[lr,lrL,lrp,aZ] at h
 cbv;obtain⟨l5,hl5,h⟩:=af h;try dsimp only at h
 have hc3:=vh hl5;refine AStep.mk ⟨(ao hg ht _),rfl⟩ ?_;cbv;refine ASst.mk (d_Scan l5) (hF _ _ _ (xY hg ht hl5)) ?_;cbv;obtain⟨l6,hl6,h⟩:=ah h;try dsimp only at h
 refine ANew.mk (d_Scan l6) (dlen (d_Scan l6)) (by rw[←hl6];exact cG hg ht []) (by rw[←hl6];exact bV hg ht []) ?_;cbv;obtain⟨hB2,h⟩:=aj h;obtain⟨o2,ho2,h⟩:=af h;try dsimp only at h
 try rw[hg] at ho2
 try rw[ht] at ho2
 refine ABL.mk {p:Nat×Int×List Scan//p.1=aA p.2.1 (int (dlen (d_Scan y1)))∧0≤p.2.1∧bw G.real TE.real l5 p.1 p.2.1 p.2.2=some o2} (fun⟨⟨n2,v2,w2⟩,_⟩=>({sl:=[(5,.c (.p 0 1 0 0)),(8,.c (.f 2 6 0 (dlen (d_Scan w2)))),(35,.c (.f 1 6 0 (dlen (d_Scan l5)))),(36,.c (.r (.v (.int .i64 (int (dlen (d_Scan y1))))))),(37,.c (.r (.v (.int .i64 v2))))],tab:=[(0,some (.foc 1 [] [.f 1 6 0 (dlen (d_Scan l5))] [])),(1,some (.arr 6 (d_Scan l5))),(2,some (.arr 6 (d_Scan w2)))]}:St)) 3 (fun p=>p.1.1) ⟨(aA 0 (int (dlen (d_Scan y1))),0,l6),rfl,Int.le_refl _,ho2⟩ (List Scan) (fun y2=>({sl:=[(8,.c (.f 0 6 0 (dlen (d_Scan y2))))],tab:=[(0,some (.arr 6 (d_Scan y2)))]}:St)) 1 (fun y=>o2=y) ?_ ?_ ?_
 ·refine Wk.of [(0,some 0),(1,some 1),(2,some 66)] rfl rfl ?_ ?_
  ·cbv;all_goals try rw[show(dlen (d_Scan y1))=(dlen (d_Scan l5)) from((ud ht (ao hg ht _) hc3)).trans (ao hg ht _).symm]
   all_goals exact⟨⟨_,rfl,rfl⟩,⟨_,rfl,rfl⟩,⟨_,rfl,rfl⟩,⟨_,rfl,rfl⟩,⟨_,rfl,rfl⟩,trivial⟩
  cbv;all_goals try rw[show(dlen (d_Scan y1))=(dlen (d_Scan l5)) from((ud ht (ao hg ht _) hc3)).trans (ao hg ht _).symm]
  all_goals exact⟨⟨_,rfl,_,rfl,rfl,trivial⟩,⟨_,rfl,rfl⟩,⟨_,rfl,rfl⟩,trivial⟩
 ·rintro⟨⟨n2,v2,w2⟩,hn2,hi2,h_2⟩ hq2;try dsimp only at hn2 hi2 h_2
  clear hq2;cbv;rcases n2 with _|n2
  ·have hb3:lt v2 (int (dlen (d_Scan y1)))=false:=bY hg hn2;rw[bw] at h_2;try rw[←hg] at h_2
   try rw[←ht] at h_2
   try dsimp only at h_2
   rw[hb3];cbv;refine⟨w2,Wk.of [(0,some 2)] rfl rfl ?_ ?_,(Option.some.inj h_2).symm⟩
   ·cbv;all_goals exact⟨⟨_,rfl,rfl⟩,trivial⟩
   cbv;all_goals exact⟨⟨_,rfl,rfl⟩,trivial⟩
  have hb3:lt v2 (int (dlen (d_Scan y1)))=true:=c7 hg hn2;have hl2:=fv hn2;have hs2:=d6 hg hn2 hi2 hB2 (by decide);rw[bw] at h_2;try rw[←hg] at h_2
  try rw[←ht] at h_2
  try dsimp only at h_2
  rw[hb3];cbv;obtain⟨hc4,h_2⟩:=aj h_2;refine AStep.mk hc4 ?_;cbv;obtain⟨x2,hx2,h_2⟩:=aD h_2;obtain⟨x2_Thing,x2_At,x2_Kind,x2_Place,⟨x2_Trip_Leg,x2_Trip_Day⟩⟩:=x2;try dsimp only at h_2
  refine AGet.mk _ (dD hg ht hx2) ?_;cbv
  cases hb4:(eq v2 0)
  rotate_left
  ·rw[ab hb4] at h_2;cbv;iterate 7 try(rw[hb4];cbv)
   obtain⟨l7,hl7,h_2⟩:=ah h_2;try dsimp only at h_2
   refine ANew.mk (d_Scan l7) (dlen (d_Scan l7)) (by rw[←hl7];exact cG hg ht [(Scan.mk x2_Thing x2_At x2_Kind x2_Place (Trip.mk x2_Trip_Leg x2_Trip_Day))]) (by rw[←hl7];exact bV hg ht [(Scan.mk x2_Thing x2_At x2_Kind x2_Place (Trip.mk x2_Trip_Leg x2_Trip_Day))]) ?_;cbv;obtain⟨hc5,h_2⟩:=aj h_2;refine AStep.mk ⟨⟨rfl,(ao hg ht _)⟩,(cX hg ht (ao hg ht _) rfl hc5)⟩ ?_;cbv;obtain⟨l8,hl8,h_2⟩:=ah h_2;try dsimp only at h_2
   refine ANew.mk (d_Scan l8) (dlen (d_Scan l8)) (by rw[←hl8];exact ff hg ht (ao hg ht _) rfl) (by rw[←hl8];exact ek hg ht (ao hg ht _) rfl) ?_;cbv;try rw[hg] at h_2
   try rw[ht] at h_2
   refine⟨⟨(n2,(wrap .i64 (add v2 1)),l8),hs2.1,hs2.2,h_2⟩,Wk.of [(0,some 0),(1,some 1),(2,some 339)] rfl rfl ?_ ?_,Nat.lt_succ_self _⟩
   ·cbv;all_goals exact⟨⟨_,rfl,rfl⟩,⟨_,rfl,rfl⟩,⟨_,rfl,rfl⟩,⟨_,rfl,rfl⟩,⟨_,rfl,rfl⟩,trivial⟩
   cbv;all_goals exact⟨⟨_,rfl,_,rfl,rfl,trivial⟩,⟨_,rfl,rfl⟩,⟨_,rfl,rfl⟩,trivial⟩
  rw[aa hb4] at h_2;cbv;iterate 3 try(rw[hb4];cbv)
  obtain⟨hc6,h_2⟩:=aj h_2;refine AStep.mk hc6 ?_;cbv;try(rw[hb4];cbv)
  obtain⟨x3,hx3,h_2⟩:=aD h_2;obtain⟨x3_Thing,x3_At,x3_Kind,x3_Place,⟨x3_Trip_Leg,x3_Trip_Day⟩⟩:=x3;try dsimp only at h_2
  refine AGet.mk _ (dD hg ht hx3) ?_;cbv;iterate 3 try(rw[hb4];cbv)
  cases hb5:(all [(eq x3_Thing x2_Thing),(eq x3_At x2_At),(eq x3_Kind x2_Kind),(seq x3_Place x2_Place),(eq x3_Trip_Leg x2_Trip_Leg),(eq x3_Trip_Day x2_Trip_Day)])
  rotate_left
  ·rw[ab hb5] at h_2;cbv;try rw[hg] at h_2
   try rw[ht] at h_2
   refine⟨⟨(n2,(wrap .i64 (add v2 1)),w2),hs2.1,hs2.2,h_2⟩,Wk.of [(0,some 0),(1,some 1),(2,some 2)] rfl rfl ?_ ?_,Nat.lt_succ_self _⟩
   ·cbv;all_goals exact⟨⟨_,rfl,rfl⟩,⟨_,rfl,rfl⟩,⟨_,rfl,rfl⟩,⟨_,rfl,rfl⟩,⟨_,rfl,rfl⟩,trivial⟩
   cbv;all_goals exact⟨⟨_,rfl,_,rfl,rfl,trivial⟩,⟨_,rfl,rfl⟩,⟨_,rfl,rfl⟩,trivial⟩
  rw[aa hb5] at h_2;cbv;obtain⟨l9,hl9,h_2⟩:=ah h_2;try dsimp only at h_2
  refine ANew.mk (d_Scan l9) (dlen (d_Scan l9)) (by rw[←hl9];exact cG hg ht [(Scan.mk x2_Thing x2_At x2_Kind x2_Place (Trip.mk x2_Trip_Leg x2_Trip_Day))]) (by rw[←hl9];exact bV hg ht [(Scan.mk x2_Thing x2_At x2_Kind x2_Place (Trip.mk x2_Trip_Leg x2_Trip_Day))]) ?_;cbv;obtain⟨hc7,h_2⟩:=aj h_2;refine AStep.mk ⟨⟨rfl,(ao hg ht _)⟩,(cX hg ht (ao hg ht _) rfl hc7)⟩ ?_;cbv;obtain⟨l10,hl10,h_2⟩:=ah h_2;try dsimp only at h_2
  refine ANew.mk (d_Scan l10) (dlen (d_Scan l10)) (by rw[←hl10];exact ff hg ht (ao hg ht _) rfl) (by rw[←hl10];exact ek hg ht (ao hg ht _) rfl) ?_;cbv;try rw[hg] at h_2
  try rw[ht] at h_2
  refine⟨⟨(n2,(wrap .i64 (add v2 1)),l10),hs2.1,hs2.2,h_2⟩,Wk.of [(0,some 0),(1,some 1),(2,some 339)] rfl rfl ?_ ?_,Nat.lt_succ_self _⟩
  ·cbv;all_goals exact⟨⟨_,rfl,rfl⟩,⟨_,rfl,rfl⟩,⟨_,rfl,rfl⟩,⟨_,rfl,rfl⟩,⟨_,rfl,rfl⟩,trivial⟩
  cbv;all_goals exact⟨⟨_,rfl,_,rfl,rfl,trivial⟩,⟨_,rfl,rfl⟩,⟨_,rfl,rfl⟩,trivial⟩
 rintro y2 hy2;replace hy2:=hy2.symm;subst hy2;try dsimp only[lr,lrL,lrp,aZ] at h
 cbv;obtain rfl:=Option.some.inj h;exact ARet.mk ⟨rfl,(ao hg ht _)⟩ hX.symm
def ir18:J:=js [jq 3 (.box 0),jq 6 (.mv (.k (.c (.n 6))))] [1,2,3] (js [jq 10 (.bsl 6 []),jm 7 10] [1,2,3,7] (.seq (js [jl 11 3 3,jm 12 1,jc 13 35 [11,12],jq 14 (.len false 13),jm 15 (ki 0)] [2,7,13,14,15] (.bl 0 (js [jb 16 .lss .i 15 14] [2,7,13,14,15,16] (.seq (.cond 16 .skip (.exit 0)) (.seq (.block 1 (js [ja 17 6 13 15,jl 18 6 17,jq 9 (.alloc [.r (.v (.int .i64 0)),.r (.v (.int .i64 0)),.r (.v (.int .i64 0)),.r (.v (.string .empty)),.r (.v (.int .i64 0)),.r (.v (.int .i64 0))]),jp (.st 6 9 18)] [2,7,9,13,14,15] (js [jf 19 0 9,jk 20 19,jm 21 2,jb 22 .eql .i 20 21] [2,7,9,13,14,15,22] (.cond 22 (.reg none [jm 23 7,jl 24 6 9,jq 25 (.bsl 6 [24]),jq 26 (.app 6 56 true 23 25),jm 7 26] [2,7,13,14,15]) .skip)))) (.reg none [jb 27 .add .i 15 (ki 1),jm 15 27] [2,7,13,14,15])))))) (js [jm 28 7,jm 6 28] [6] .ret)))
def rv18:List RV:=[.t 6]
def cJ (g:G) (t:TE) (a2:Int) (x1:List Scan):Nat→Int→List Scan→Option (List Scan)
 |0,v1,w1=>
  some w1
 |n1+1,v1,w1=>
  gt x1 (g.nat v1) fun x2=>
  br (g.eq x2.Thing a2)
  (
   lP ([(Scan.mk x2.Thing x2.At x2.Kind x2.Place (Trip.mk x2.Trip.Leg x2.Trip.Day))]) fun(l2:List Scan)=>
   gd (((w1.length+l2.length)*56≤70368744177664))<|
   lP (w1++l2) fun(l3:List Scan)=>
   cJ g t a2 x1 n1 (g.wrap .i64 (g.add v1 1)) l3)
  (
   cJ g t a2 x1 n1 (g.wrap .i64 (g.add v1 1)) w1)
def gN (g:G) (t:TE) (a0:Network) (a1:List Scan) (a2:Int):Option (List Scan):=
 lP ([]) fun(l1:List Scan)=>
 cl (hC g t a0 a1) fun x1=>
 gd (((g.int (g.dlen (t.d_Scan x1)))≤9223372036854775807))<|
 cl (cJ g t a2 x1 (aA 0 (g.int (g.dlen (t.d_Scan x1)))) 0 l1) fun y1=>
 some y1
theorem lm {g:G} {t:TE} {a0:Network} {a1:List Scan} {a2:Int} {r:List Scan} (hg:g=G.real) (ht:t=TE.real) (h:gN g t a0 a1 a2=some r):Fn Tryz.prog 18 [.g (Network.rs t a0),.c (.s 6 (t.r_Scan a1)),.c (.v (.int .i64 a2))] (.c (.o 6 (t.d_Scan r))):=by
 obtain⟨X,hX⟩:=aC (.c (.o 6 (t.d_Scan r)):X);rw[←hX];refine ay (rvs:=rv18) (j:=ir18) Tryz.func18 rfl (by kernel_rfl) (nb rfl) (by kernel_rfl) ac ?_;intro g2 F hg2 hF;obtain rfl:g2=g:=hg2.unique.trans hg.symm;clear hg2;obtain⟨wrap,lt,_,eq,_,_,_,_,_,_,_,_,int,add,_,_,_,_,_,_,_,_,_,_,dlen⟩:=g2;obtain⟨_,_,_,d_Scan⟩:=t
 obtain⟨a0_Legs,a0_Off,a0_Change⟩:=a0;unfold gN at h;try dsimp only at h
 cbv;obtain⟨l1,hl1,h⟩:=ah h;try dsimp only at h
 refine ANew.mk (d_Scan l1) (dlen (d_Scan l1)) (by rw[←hl1];exact cG hg ht []) (by rw[←hl1];exact bV hg ht []) ?_;cbv;obtain⟨x1,hx1,h⟩:=af h;try dsimp only at h
 refine ACall.mk _ _ rfl (hF _ _ _ (sP hg ht hx1)) (.inl rfl) (nb rfl) ?_;cbv;obtain⟨hB1,h⟩:=aj h;obtain⟨o1,ho1,h⟩:=af h;try dsimp only at h
 try rw[hg] at ho1
 try rw[ht] at ho1
 refine ABL.mk {p:Nat×Int×List Scan//p.1=aA p.2.1 (int (dlen (d_Scan x1)))∧0≤p.2.1∧cJ G.real TE.real a2 x1 p.1 p.2.1 p.2.2=some o1} (fun⟨⟨n1,v1,w1⟩,_⟩=>({sl:=[(2,.c (.r (.v (.int .i64 a2)))),(7,.c (.f 0 6 0 (dlen (d_Scan w1)))),(13,.c (.f 1 6 0 (dlen (d_Scan x1)))),(14,.c (.r (.v (.int .i64 (int (dlen (d_Scan x1))))))),(15,.c (.r (.v (.int .i64 v1))))],tab:=[(0,some (.arr 6 (d_Scan w1))),(1,some (.arr 6 (d_Scan x1)))]}:St)) 2 (fun p=>p.1.1) ⟨(aA 0 (int (dlen (d_Scan x1))),0,l1),rfl,Int.le_refl _,ho1⟩ (List Scan) (fun y1=>({sl:=[(7,.c (.f 0 6 0 (dlen (d_Scan y1))))],tab:=[(0,some (.arr 6 (d_Scan y1)))]}:St)) 1 (fun y=>o1=y) ?_ ?_ ?_
 ·refine Wk.of [(0,some 32),(1,some 96)] rfl rfl ?_ ?_
  ·cbv;all_goals exact⟨⟨_,rfl,rfl⟩,⟨_,rfl,rfl⟩,⟨_,rfl,rfl⟩,⟨_,rfl,rfl⟩,⟨_,rfl,rfl⟩,trivial⟩
  cbv;all_goals exact⟨⟨_,rfl,rfl⟩,⟨_,rfl,rfl⟩,trivial⟩
 ·rintro⟨⟨n1,v1,w1⟩,hn1,hi1,h_1⟩ hq1;try dsimp only at hn1 hi1 h_1
  clear hq1;cbv;rcases n1 with _|n1
  ·have hb1:lt v1 (int (dlen (d_Scan x1)))=false:=bY hg hn1;rw[cJ] at h_1;try rw[←hg] at h_1
   try rw[←ht] at h_1
   try dsimp only at h_1
   rw[hb1];cbv;refine⟨w1,Wk.of [(0,some 0)] rfl rfl ?_ ?_,(Option.some.inj h_1).symm⟩
   ·cbv;all_goals exact⟨⟨_,rfl,rfl⟩,trivial⟩
   cbv;all_goals exact⟨⟨_,rfl,rfl⟩,trivial⟩
  have hb1:lt v1 (int (dlen (d_Scan x1)))=true:=c7 hg hn1;have hl1:=fv hn1;have hs1:=d6 hg hn1 hi1 hB1 (by decide);rw[cJ] at h_1;try rw[←hg] at h_1
  try rw[←ht] at h_1
  try dsimp only at h_1
  rw[hb1];cbv;refine AStep.mk (lz hg hi1 hl1) ?_;cbv;obtain⟨x2,hx2,h_1⟩:=aD h_1;obtain⟨x2_Thing,x2_At,x2_Kind,x2_Place,⟨x2_Trip_Leg,x2_Trip_Day⟩⟩:=x2;try dsimp only at h_1
  refine AGet.mk _ (dD hg ht hx2) ?_;cbv
  cases hb2:(eq x2_Thing a2)
  ·rw[aa hb2] at h_1;cbv;try rw[hg] at h_1
   try rw[ht] at h_1
   refine⟨⟨(n1,(wrap .i64 (add v1 1)),w1),hs1.1,hs1.2,h_1⟩,Wk.of [(0,some 0),(1,some 1)] rfl rfl ?_ ?_,Nat.lt_succ_self _⟩
   ·cbv;all_goals exact⟨⟨_,rfl,rfl⟩,⟨_,rfl,rfl⟩,⟨_,rfl,rfl⟩,⟨_,rfl,rfl⟩,⟨_,rfl,rfl⟩,trivial⟩
   cbv;all_goals exact⟨⟨_,rfl,rfl⟩,⟨_,rfl,rfl⟩,trivial⟩
  rw[ab hb2] at h_1;cbv;obtain⟨l2,hl2,h_1⟩:=ah h_1;try dsimp only at h_1
  refine ANew.mk (d_Scan l2) (dlen (d_Scan l2)) (by rw[←hl2];exact cG hg ht [(Scan.mk x2_Thing x2_At x2_Kind x2_Place (Trip.mk x2_Trip_Leg x2_Trip_Day))]) (by rw[←hl2];exact bV hg ht [(Scan.mk x2_Thing x2_At x2_Kind x2_Place (Trip.mk x2_Trip_Leg x2_Trip_Day))]) ?_;cbv;obtain⟨hc1,h_1⟩:=aj h_1;refine AStep.mk ⟨⟨rfl,(ao hg ht _)⟩,(cX hg ht (ao hg ht _) rfl hc1)⟩ ?_;cbv;obtain⟨l3,hl3,h_1⟩:=ah h_1;try dsimp only at h_1
  refine ANew.mk (d_Scan l3) (dlen (d_Scan l3)) (by rw[←hl3];exact ff hg ht (ao hg ht _) rfl) (by rw[←hl3];exact ek hg ht (ao hg ht _) rfl) ?_;cbv;try rw[hg] at h_1
  try rw[ht] at h_1
  refine⟨⟨(n1,(wrap .i64 (add v1 1)),l3),hs1.1,hs1.2,h_1⟩,Wk.of [(0,some 194),(1,some 1)] rfl rfl ?_ ?_,Nat.lt_succ_self _⟩
  ·cbv;all_goals exact⟨⟨_,rfl,rfl⟩,⟨_,rfl,rfl⟩,⟨_,rfl,rfl⟩,⟨_,rfl,rfl⟩,⟨_,rfl,rfl⟩,trivial⟩
  cbv;all_goals exact⟨⟨_,rfl,rfl⟩,⟨_,rfl,rfl⟩,trivial⟩
 rintro y1 hy1;replace hy1:=hy1.symm;subst hy1;try dsimp only[lr,lrL,lrp,aZ] at h
 cbv;obtain rfl:=Option.some.inj h;exact ARet.mk ⟨rfl,(ao hg ht _)⟩ hX.symm
def ir83:J:=js [jq 4 (.box 0),jq 8 (.mv (.k (.c (.n 1))))] [1,2,3,4] (.seq (js [jl 9 3 4,jc 10 54 [9],jq 11 (.not 10)] [1,2,3,4,11] (.cond 11 (js [jq 8 (.mv (.k (.c (.n 1))))] [8] .ret) .skip)) (.seq (.reg (some [[],[],[1],[],[],[],[0,1,2,3,4,5],[0,1,2,3,4,5,6]]) [jl 12 3 4,jl 13 3 4,jc 14 56 [13],jm 15 1,jm 16 2,jm 17 3,jc 18 109 [12,14,15,16,17],jm 8 18] [8]) .ret))
def rv83:List RV:=[.t 8]
def c8 (g:G) (t:TE) (a0:Network) (a1:ByteArray) (a2:Int) (a3:Int):Option (List Int):=
 cl (cN g t a0) fun x1=>
 br x1
 (
  lP (jY g t a0) fun x2=>
  cl (gJ g t a0 x2 a1 a2 a3) fun x3=>
  some x3)
 (
  some [])
theorem pb {g:G} {t:TE} {a0:Network} {a1:ByteArray} {a2:Int} {a3:Int} {r:List Int} (hg:g=G.real) (ht:t=TE.real) (h:c8 g t a0 a1 a2 a3=some r):Fn Tryz.prog 83 [.g (Network.rs t a0),.c (.v (.string a1)),.c (.v (.int .i64 a2)),.c (.v (.int .i64 a3))] (.c (.o 1 (t.d_I64 r))):=by
 obtain⟨X,hX⟩:=aC (.c (.o 1 (t.d_I64 r)):X);rw[←hX];refine ay (rvs:=rv83) (j:=ir83) Tryz.func83 rfl (by kernel_rfl) (nb rfl) (by kernel_rfl) ac ?_;intro g2 F hg2 hF;obtain rfl:g2=g:=hg2.unique.trans hg.symm;clear hg2;obtain⟨_⟩:=g2;obtain⟨_,_,_,_,_,_,_,d_I64⟩:=t
 obtain⟨a0_Legs,a0_Off,a0_Change⟩:=a0;have hnil_I64:d_I64 []=[]:=lS ht;unfold c8 at h;try dsimp only at h
 cbv;obtain⟨x1,hx1,h⟩:=af h;try dsimp only at h
 refine ACall.mk _ _ rfl (hF _ _ _ (fm hg ht hx1)) (.inl rfl) (nb rfl) ?_;cbv
 cases hb1:x1
 ·rw[aa hb1] at h;cbv;obtain rfl:=Option.some.inj h;exact ARet.mk trivial (by rw[hX];first|rfl|(simp only[Trip.ds,Scan.ds,Leg.ds,Network.ds,Booking.ds,Belief.ds,Cur.ds,Spot.ds,Know.ds,hnil_I64];try rfl))
 rw[ab hb1] at h;cbv;obtain⟨x2,hx2,h⟩:=ah h;try dsimp only at h
 refine ACall.mk _ _ rfl (hF _ _ _ (rO hg ht hx2)) (.inl rfl) (nb rfl) ?_;cbv;obtain⟨x3,hx3,h⟩:=af h;try dsimp only at h
 refine ACall.mk _ _ rfl (hF _ _ _ (nT hg ht hx3)) (.inl rfl) (nb rfl) ?_;cbv;obtain rfl:=Option.some.inj h;exact ARet.mk ⟨rfl,(ak hg ht _)⟩ hX.symm
def ir29:J:=js [jq 4 (.box 0),jm 8 (ki 0)] [1,2,3,4] (js [jl 12 3 4,jc 13 82 [12],jm 9 13] [1,2,3,4,9] (js [jl 14 3 4,jm 15 1,jm 16 3,jm 17 9,jq 18 (.len false 17),jc 19 83 [14,15,16,18],jm 10 19] [2,9,10] (js [jm 20 9,jm 21 2,jc 22 84 [20,21],jm 11 22] [10,11] (.seq (js [jm 23 11,jb 24 .lss .i 23 (ki 0),jm 25 24,jv 26 25 (.mv 10),jv 27 25 (.len false 26),jv 28 25 (.bin .eql .i 27 (ki 0)),jq 29 (.pick 25 kt 28)] [10,11,29] (.cond 29 (js [jq 8 (.mv (.k (V.i (-1))))] [8] .ret) .skip)) (js [jm 30 10,jm 31 11,ja 32 1 30 31,jk 33 32,jm 8 33] [8] .ret)))))
def rv29:List RV:=[.t 8]
def eP (g:G) (t:TE) (a0:Network) (a1:ByteArray) (a2:ByteArray) (a3:Int):Option Int:=
 cl (dH g t a0) fun x1=>
 cl (c8 g t a0 a1 a3 (g.int (g.dlen (t.d_S x1)))) fun x2=>
 lP (cD g t x1 a2) fun x3=>
 br (g.lt x3 0)
 (
  some (-1))
 (
  br (g.eq (g.int (g.dlen (t.d_I64 x2))) 0)
  (
   some (-1))
  (
   gd (((0:Int)≤x3∧x3<(((g.dlen (t.d_I64 x2)):Nat):Int)))<|
   gt x2 (g.nat x3) fun x4=>
   some x4))
theorem lE {g:G} {t:TE} {a0:Network} {a1:ByteArray} {a2:ByteArray} {a3:Int} {r:Int} (hg:g=G.real) (ht:t=TE.real) (h:eP g t a0 a1 a2 a3=some r):Fn Tryz.prog 29 [.g (Network.rs t a0),.c (.v (.string a1)),.c (.v (.string a2)),.c (.v (.int .i64 a3))] (.c (.r (.v (.int .i64 r)))):=by
 obtain⟨X,hX⟩:=aC (.c (.r (.v (.int .i64 r))):X);rw[←hX];refine ay (rvs:=rv29) (j:=ir29) Tryz.func29 rfl (by kernel_rfl) (nb rfl) (by kernel_rfl) ac ?_;intro g2 F hg2 hF;obtain rfl:g2=g:=hg2.unique.trans hg.symm;clear hg2;obtain⟨_,lt,_,eq,_,_,_,_,_,_,_,_,int,_,_,_,_,_,_,_,_,_,_,_,dlen,_,_,_,rd⟩:=g2;obtain⟨_,_,_,_,_,_,_,d_I64,_,_,_,_,r_S,d_S⟩:=t
 obtain⟨a0_Legs,a0_Off,a0_Change⟩:=a0;unfold eP at h;try dsimp only at h
 cbv;obtain⟨x1,hx1,h⟩:=af h;try dsimp only at h
 refine ACall.mk _ _ rfl (hF _ _ _ (eZ hg ht hx1)) (.inl rfl) (nb rfl) ?_;cbv;obtain⟨x2,hx2,h⟩:=af h;try dsimp only at h
 refine ACall.mk _ _ rfl (hF _ _ _ (pb hg ht hx2)) (.inl rfl) (nb rfl) ?_;cbv;refine AStep.mk (en ht (ap hg ht _)) ?_;cbv;obtain⟨x3,hx3,h⟩:=ah h;try dsimp only at h
 refine ACall.mk _ _ (by rw[show rd (d_S x1) 0 (dlen (d_S x1))=r_S x1 from gp hg ht (ap hg ht _)];try rfl) (hF _ _ _ (dh hg ht hx3)) (.inr rfl) (nb rfl) ?_
 cbv
 cases hb1:(lt x3 0)
 rotate_left
 ·rw[ab hb1] at h;cbv;iterate 3 try(rw[hb1];cbv)
  obtain rfl:=Option.some.inj h;exact ARet.mk trivial hX.symm
 rw[aa hb1] at h;cbv;iterate 3 try(rw[hb1];cbv)
 cases hb2:(eq (int (dlen (d_I64 x2))) 0)
 rotate_left
 ·rw[ab hb2] at h;cbv;obtain rfl:=Option.some.inj h;exact ARet.mk trivial hX.symm
 rw[aa hb2] at h;cbv;obtain⟨hc1,h⟩:=aj h;refine AStep.mk hc1 ?_;cbv;obtain⟨x4,hx4,h⟩:=aD h;try dsimp only at h
 refine AGet.mk _ (bu hg ht hx4) ?_;cbv;obtain rfl:=Option.some.inj h;exact ARet.mk trivial hX.symm
def Gq:J:=js [jq 3 (.box 0),jq 4 (.box 1),jq 5 (.box 2),jm 6 kf] [3,4,5] (.seq (js [jf 8 0 4,jk 9 8,jf 10 0 5,jk 11 10,jb 12 .eql .s 9 11] [3,4,5,12] (.cond 12 (js [jf 13 1 4,jk 14 13,jf 15 1 5,jk 16 15,jb 17 .leq .i 14 16,jm 6 17] [6] .ret) .skip)) (js [jl 18 3 3,jf 19 0 4,jk 20 19,jf 21 0 5,jk 22 21,jf 23 1 4,jk 24 23,jc 25 29 [18,20,22,24],jm 7 25] [5,7] (js [jm 26 7,jq 27 (.bin .neq .i 26 (.k (V.i (-1)))),jm 28 27,ju 29 28 (.mv 7),ju 30 28 (.fa 1 5),ju 31 28 (.ld false 1 30),ju 32 28 (.bin .leq .i 29 31),jq 33 (.pick 28 32 kf),jm 6 33] [6] .ret)))
def Hw:List RV:=[.t 6]
def eJ (g:G) (t:TE) (a0:Network) (a1:Spot) (a2:Spot):Option Bool:=
 br (g.seq a1.Place a2.Place)
 (
  some (g.le a1.At a2.At))
 (
  cl (eP g t a0 a1.Place a2.Place a1.At) fun x1=>
  br (g.eq x1 (-1))
  (
   some false)
  (
   some (g.le x1 a2.At)))
theorem jy {g:G} {t:TE} {a0:Network} {a1:Spot} {a2:Spot} {r:Bool} (hg:g=G.real) (ht:t=TE.real) (h:eJ g t a0 a1 a2=some r):Fn Tryz.prog 104 [.g (Network.rs t a0),.g (Spot.rs t a1),.g (Spot.rs t a2)] (.c (.r (.v (.bool r)))):=by
 obtain⟨X,hX⟩:=aC (.c (.r (.v (.bool r))):X);rw[←hX];refine ay (rvs:=Hw) (j:=Gq) Tryz.func104 rfl (by kernel_rfl) (nb rfl) (by kernel_rfl) ac ?_;intro g2 F hg2 hF;obtain rfl:g2=g:=hg2.unique.trans hg.symm;clear hg2;obtain⟨_,_,_,eq,_,_,_,_,_,_,_,_,_,_,_,_,_,seq⟩:=g2;obtain⟨_⟩:=t
 obtain⟨a0_Legs,a0_Off,a0_Change⟩:=a0;obtain⟨a1_Place,a1_At⟩:=a1;obtain⟨a2_Place,a2_At⟩:=a2;unfold eJ at h;try dsimp only at h
 cbv
 cases hb1:(seq a1_Place a2_Place)
 rotate_left
 ·rw[ab hb1] at h;cbv;obtain rfl:=Option.some.inj h;exact ARet.mk trivial hX.symm
 rw[aa hb1] at h;cbv;obtain⟨x1,hx1,h⟩:=af h;try dsimp only at h
 refine ACall.mk _ _ rfl (hF _ _ _ (lE hg ht hx1)) (.inl rfl) (nb rfl) ?_;cbv
 cases hb2:(eq x1 (-1))
 rotate_left
 ·rw[ab hb2] at h;cbv;iterate 4 try(rw[hb2];cbv)
  obtain rfl:=Option.some.inj h;exact ARet.mk trivial hX.symm
 rw[aa hb2] at h;cbv;iterate 4 try(rw[hb2];cbv)
 obtain rfl:=Option.some.inj h;exact ARet.mk trivial hX.symm
def GQ (s_k0:ByteArray):J:=js [jq 2 (.box 0),jq 3 (.box 1),jq 4 (.mv (.k (.c (.r (.v (.string s_k0))))))] [2,3] (.seq (js [jl 5 3 2,jl 6 6 3,jc 7 91 [5,6],jq 8 (.not 7)] [2,3,8] (.cond 8 (js [jq 4 (.mv (.k (.c (.r (.v (.string s_k0))))))] [4] .ret) .skip)) (.seq (js [jf 9 2 3,jk 10 9] [2,3,10] (.block 0 (js [jb 12 .eql .i 10 (ki 3),jm 11 12] [2,3,10,11] (.cond 11 (js [jf 13 0 2,jk 14 13,jf 15 4 3,jf 16 0 15,jk 17 16,ja 18 6 14 17,jf 19 0 18,jk 20 19,jm 4 20] [4] .ret) (js [jb 22 .eql .i 10 (ki 2),jm 21 22] [2,3,21] (.cond 21 (js [jf 23 0 2,jk 24 23,jf 25 4 3,jf 26 0 25,jk 27 26,ja 28 6 24 27,jf 29 1 28,jk 30 29,jm 4 30] [4] .ret) .skip)))))) (js [jf 31 3 3,jk 32 31,jm 4 32] [4] .ret)))
def Gx:List RV:=[.t 4]
def j5 (g:G) (t:TE) (a0:Network) (a1:Scan):Option ByteArray:=
 cl (fh g t a0 (Scan.mk a1.Thing a1.At a1.Kind a1.Place (Trip.mk a1.Trip.Leg a1.Trip.Day))) fun x1=>
 br x1
 (
  br (g.eq a1.Kind 3)
  (
   gd (((0:Int)≤a1.Trip.Leg))<|
   gt a0.Legs (g.nat a1.Trip.Leg) fun x2=>
   some x2.From)
  (
   br (g.eq a1.Kind 2)
   (
    gd (((0:Int)≤a1.Trip.Leg))<|
    gt a0.Legs (g.nat a1.Trip.Leg) fun x3=>
    some x3.To)
   (
    some a1.Place)))
 (
  some str_k0)
theorem wF {g:G} {t:TE} {a0:Network} {a1:Scan} {r:ByteArray} (hg:g=G.real) (ht:t=TE.real) (h:j5 g t a0 a1=some r):Fn Tryz.prog 147 [.g (Network.rs t a0),.g (Scan.rs t a1)] (.c (.r (.v (.string r)))):=by
 obtain⟨X,hX⟩:=aC (.c (.r (.v (.string r))):X);rw[←hX];refine ay (rvs:=Gx) (j:=(GQ str_k0)) Tryz.func147 rfl (by kernel_rfl) (nb rfl) (by kernel_rfl) ac ?_;intro g2 F hg2 hF;obtain rfl:g2=g:=hg2.unique.trans hg.symm;clear hg2;obtain⟨_,_,_,eq⟩:=g2;obtain⟨_⟩:=t
 obtain⟨a0_Legs,a0_Off,a0_Change⟩:=a0;obtain⟨a1_Thing,a1_At,a1_Kind,a1_Place,⟨a1_Trip_Leg,a1_Trip_Day⟩⟩:=a1;unfold j5 at h;try dsimp only at h
 obtain⟨s_k0,hs_k0⟩:∃s,str_k0=s:=⟨_,rfl⟩;try rw[hs_k0] at h
 rw[hs_k0];cbv;obtain⟨x1,hx1,h⟩:=af h;try dsimp only at h
 refine ACall.mk _ _ rfl (hF _ _ _ (gG hg ht hx1)) (.inl rfl) (nb rfl) ?_;cbv
 cases hb1:x1
 ·rw[aa hb1] at h;cbv;obtain rfl:=Option.some.inj h;exact ARet.mk trivial hX.symm
 rw[ab hb1] at h;cbv
 cases hb2:(eq a1_Kind 3)
 rotate_left
 ·rw[ab hb2] at h;cbv;obtain⟨hc1,h⟩:=aj h;refine AStep.mk hc1 ?_;cbv;obtain⟨x2,hx2,h⟩:=aD h;obtain⟨x2_From,x2_To,x2_Start,x2_Takes,x2_Days,x2_Room⟩:=x2;try dsimp only at h
  refine AGet.mk _ (aY hg ht hx2) ?_;cbv;obtain rfl:=Option.some.inj h;exact ARet.mk trivial hX.symm
 rw[aa hb2] at h;cbv
 cases hb3:(eq a1_Kind 2)
 ·rw[aa hb3] at h;cbv;obtain rfl:=Option.some.inj h;exact ARet.mk trivial hX.symm
 rw[ab hb3] at h;cbv;obtain⟨hc2,h⟩:=aj h;refine AStep.mk hc2 ?_;cbv;obtain⟨x3,hx3,h⟩:=aD h;obtain⟨x3_From,x3_To,x3_Start,x3_Takes,x3_Days,x3_Room⟩:=x3;try dsimp only at h
 refine AGet.mk _ (aY hg ht hx3) ?_;cbv;obtain rfl:=Option.some.inj h;exact ARet.mk trivial hX.symm
end Go.Vs
