/- Part of the proofs of this seat's laws: Laa. No condition. -/
import Derived.Test.YtilplaaijbpilaaGreatTy
import Derived.Test.YtilplaaijbpilaaGreatTIRall
import Derived.Test.YtilplaaijbpilaaGreatVg
import Derived.Test.YtilplaaijbpilaaGreatProg
import Derived.Shelf.Sort.AssemblysIn
import Derived.Shelf.Sort.So_math_bits_LenInS
import Derived.Shelf.Lay
import Derived.Sort.EveryDepth
import Derived.Lib.Walk
import Derived.LoopN
set_option linter.unusedVariables false
set_option linter.unusedSimpArgs false
set_option linter.unusedSectionVars false
namespace Go.Vs
set_option maxRecDepth 100000
def Ji:J:=js [jq 2 (.box 0),jm 4 (ki 0)] [1,2] (js [jm 5 1,jf 6 0 2,jk 7 6,jq 8 (.len true 7),jb 9 .sub .i 5 8,jm 1 9] [1,2] (.seq (js [jm 10 1,jb 11 .lss .i 10 (ki 0)] [1,2,11] (.cond 11 (js [jq 4 (.mv (.k (V.i (-1))))] [4] .ret) .skip)) (js [jm 12 1,jf 13 1 2,jk 14 13,jq 15 (.len true 14),jb 16 .sub .i 12 15,jm 1 16] [1] (.seq (js [jm 17 1,jb 18 .lss .i 17 (ki 0)] [1,18] (.cond 18 (js [jq 4 (.mv (.k (V.i (-1))))] [4] .ret) .skip)) (js [jm 19 1,jm 4 19] [4] .ret)))))
def Ia:List RV:=[.t 4]
open Go.Proofs Go.IntWalk
set_option linter.unusedVariables false
set_option maxHeartbeats 4000000
def qB (g:G) (t:TE) (a0:Leg) (a1:Int):Int:=
 br (g.lt (g.wrap .i64 (g.sub a1 (g.int (g.slen a0.From)))) 0)
 (
  (-1))
 (
  br (g.lt (g.wrap .i64 (g.sub (g.wrap .i64 (g.sub a1 (g.int (g.slen a0.From)))) (g.int (g.slen a0.To)))) 0)
  (
   (-1))
  (
   (g.wrap .i64 (g.sub (g.wrap .i64 (g.sub a1 (g.int (g.slen a0.From)))) (g.int (g.slen a0.To))))))
theorem CE {g:G} {t:TE} {a0:Leg} {a1:Int} {r:Int} (hg:g=G.real) (ht:t=TE.real) (h:qB g t a0 a1=r):Fn Tryz.prog 100 [.g (Leg.rs t a0),.c (.v (.int .i64 a1))] (.c (.r (.v (.int .i64 r)))):=by
 obtain⟨X,hX⟩:=aH (.c (.r (.v (.int .i64 r))):X);rw[←hX];refine aw (rvs:=Ia) (j:=Ji) Tryz.func100 rfl (by kernel_rfl) (nb rfl) (by kernel_rfl) af ?_;intro g2 F hg2 hF;obtain rfl:g2=g:=hg2.unique.trans hg.symm;clear hg2;obtain⟨wrap,lt,_,_,_,_,_,_,_,_,_,_,int,_,sub,_,_,_,_,_,_,_,_,_,_,_,_,_,_,_,_,_,_,_,_,slen⟩:=g2;obtain⟨_⟩:=t
 obtain⟨a0_From,a0_To,a0_Start,a0_Takes,a0_Days,a0_Room⟩:=a0;unfold qB at h;try dsimp only at h
 cbv
 cases hb1:(lt (wrap .i64 (sub a1 (int (slen a0_From)))) 0)
 rotate_left
 ·rw[ab hb1] at h;cbv;subst h;exact ARet.mk trivial hX.symm
 rw[aa hb1] at h;cbv
 cases hb2:(lt (wrap .i64 (sub (wrap .i64 (sub a1 (int (slen a0_From)))) (int (slen a0_To)))) 0)
 rotate_left
 ·rw[ab hb2] at h;cbv;subst h;exact ARet.mk trivial hX.symm
 rw[aa hb2] at h;cbv;subst h;exact ARet.mk trivial hX.symm
def ir59:J:=js [jm 4 (ki 0)] [0,1] (js [jm 6 1,jm 7 0,jq 8 (.len false 7),jb 9 .sub .i 6 8,jm 1 9] [0,1] (.seq (js [jm 10 1,jb 11 .lss .i 10 (ki 0)] [0,1,11] (.cond 11 (js [jq 4 (.mv (.k (V.i (-1))))] [4] .ret) .skip)) (.seq (js [jm 5 (ki 0)] [0,1,5] (.bl 0 (.seq (js [jm 12 5,jm 13 0,jq 14 (.len false 13),jb 15 .lss .i 12 14] [0,1,5,15] (.cond 15 .skip (.exit 0))) (.seq (.block 1 (js [jm 18 0,jm 19 5,ja 20 6 18 19,jl 21 6 20,jm 22 1,jc 23 100 [21,22],jm 1 23] [0,1,5] (js [jm 24 1,jb 25 .lss .i 24 (ki 0)] [0,1,5,25] (.cond 25 (js [jq 4 (.mv (.k (V.i (-1))))] [4] .ret) .skip)))) (.reg none [jm 16 5,jb 17 .add .i 16 (ki 1),jm 5 17] [0,1,5]))))) (js [jm 26 1,jm 4 26] [4] .ret))))
def rv59:List RV:=[.t 4]
def fM (g:G) (t:TE):List Leg→Int→LR Int Int
 |[],v1=>
  (LR.out v1)
 |z1::ls1,v1=>
  lP (qB g t z1 v1) fun x1=>
  br (g.lt x1 0)
  (
   (LR.ret (-1)))
  (
   fM g t ls1 x1)
def oh (g:G) (t:TE) (a0:List Leg) (a1:Int):Int:=
 br (g.lt (g.wrap .i64 (g.sub a1 (g.llen (t.r_Leg a0)))) 0)
 (
  (-1))
 (
  lP (fM g t a0 (g.wrap .i64 (g.sub a1 (g.llen (t.r_Leg a0))))) fun o1=>lrp o1 fun y1=>
  y1)
theorem z6 {g:G} {t:TE} {a0:List Leg} {a1:Int} {r:Int} (hg:g=G.real) (ht:t=TE.real) (h:oh g t a0 a1=r):Fn Tryz.prog 59 [.c (.s 6 (t.r_Leg a0)),.c (.v (.int .i64 a1))] (.c (.r (.v (.int .i64 r)))):=by
 obtain⟨X,hX⟩:=aH (.c (.r (.v (.int .i64 r))):X);rw[←hX];refine aw (rvs:=rv59) (j:=ir59) Tryz.func59 rfl (by kernel_rfl) (nb rfl) (by kernel_rfl) af ?_;intro g2 F hg2 hF;obtain rfl:g2=g:=hg2.unique.trans hg.symm;clear hg2;obtain⟨wrap,lt,_,_,_,_,_,_,_,_,_,_,_,add,sub,_,_,_,_,_,_,llen⟩:=g2;obtain⟨r_Leg⟩:=t
 unfold oh at h;try dsimp only at h
 cbv
 cases hb1:(lt (wrap .i64 (sub a1 (llen (r_Leg a0)))) 0)
 rotate_left
 ·rw[ab hb1] at h;cbv;subst h;exact ARet.mk trivial hX.symm
 rw[aa hb1] at h;cbv;obtain⟨o1,ho1,h⟩:=ak h;try dsimp only at h
 try rw[hg] at ho1
 try rw[ht] at ho1
 refine ABL.mk {p:Nat×Int×Int//p.1≤a0.length∧p.2.1=((p.1:Nat):Int)∧fM G.real TE.real (List.drop p.1 a0) p.2.2=o1} (fun⟨⟨k1,v2,v1⟩,_⟩=>({sl:=[(0,.c (.r (.s 6 (r_Leg a0)))),(1,.c (.r (.v (.int .i64 v1)))),(5,.c (.r (.v (.int .i64 v2))))],tab:=[]}:St)) 0 (fun p=>a0.length-p.1.1) ⟨(0,0,(wrap .i64 (sub a1 (llen (r_Leg a0))))),Nat.zero_le _,rfl,ho1⟩ (Int) (fun y1=>({sl:=[(1,.c (.r (.v (.int .i64 y1))))],tab:=[]}:St)) 0 (fun y=>o1=LR.out y) ?_ ?_ ?_
 ·refine Wk.of [] rfl rfl ?_ ?_
  ·cbv;all_goals exact⟨⟨_,rfl,rfl⟩,⟨_,rfl,rfl⟩,⟨_,rfl,rfl⟩,trivial⟩
  cbv;all_goals exact trivial
 ·rintro⟨⟨k1,v2,v1⟩,hk1,hi1,h_1⟩ hq1;have hm1:=(hq1.1 0 _ _ rfl);try dsimp only at hk1 hi1 h_1
  clear hq1;cbv
  by_cases hc1_:k1<a0.length
  ·have hb2:lt v2 (llen (r_Leg a0))=true:=dw hg ht hi1 hc1_;have hs1:=gw hg ht hi1 hc1_ hm1;obtain⟨z1,hz1⟩:=aL hc1_;rw[aD hz1] at h_1;rw[fM] at h_1;obtain⟨z1_From,z1_To,z1_Start,z1_Takes,z1_Days,z1_Room⟩:=z1;try rw[←hg] at h_1
   try rw[←ht] at h_1
   try dsimp only at h_1
   rw[hb2];cbv;refine AStep.mk (eO hi1) ?_;cbv;refine AGet.mk _ (fS hg ht hi1 hz1) ?_;cbv;obtain⟨x1,hx1,h_1⟩:=ak h_1;try dsimp only at h_1
   refine ACall.mk _ _ rfl (hF _ _ _ (CE hg ht hx1)) (.inl rfl) (nb rfl) ?_;cbv
   cases hb3:(lt x1 0)
   rotate_left
   ·rw[ab hb3] at h_1;cbv;subst h_1;try dsimp only[lr,lrL,lrp,aR] at h
    subst h;exact ARet.mk trivial hX.symm
   rw[aa hb3] at h_1;cbv;try rw[hg] at h_1
   try rw[ht] at h_1
   refine⟨⟨(k1+1,(wrap .i64 (add v2 1)),x1),hc1_,hs1,h_1⟩,Wk.of [] rfl rfl ?_ ?_,a8 hc1_⟩
   ·cbv;all_goals exact⟨⟨_,rfl,rfl⟩,⟨_,rfl,rfl⟩,⟨_,rfl,rfl⟩,trivial⟩
   cbv;all_goals exact trivial
  have hb2:lt v2 (llen (r_Leg a0))=false:=cR hg ht hi1 hc1_;rw[List.drop_of_length_le (Nat.le_of_not_lt hc1_)] at h_1;rw[fM] at h_1;try rw[←hg] at h_1
  try rw[←ht] at h_1
  try dsimp only at h_1
  rw[hb2];cbv;refine⟨v1,Wk.of [] rfl rfl ?_ ?_,h_1.symm⟩
  ·cbv;all_goals exact⟨⟨_,rfl,rfl⟩,trivial⟩
  cbv;all_goals exact trivial
 rintro y1 hy1;replace hy1:=hy1.symm;subst hy1;try dsimp only[lr,lrL,lrp,aR] at h
 cbv;subst h;exact ARet.mk trivial hX.symm
def ir60:J:=js [jm 4 (ki 0)] [0,1] (js [jm 5 1,jm 6 0,jq 7 (.len false 6),jb 8 .sub .i 5 7,jm 1 8] [1] (.seq (js [jm 9 1,jb 10 .lss .i 9 (ki 0)] [1,10] (.cond 10 (js [jq 4 (.mv (.k (V.i (-1))))] [4] .ret) .skip)) (js [jm 11 1,jm 4 11] [4] .ret)))
def rv60:List RV:=[.t 4]
def nV (g:G) (t:TE) (a0:List Int) (a1:Int):Int:=
 br (g.lt (g.wrap .i64 (g.sub a1 (g.llen (t.r_I64 a0)))) 0)
 (
  (-1))
 (
  (g.wrap .i64 (g.sub a1 (g.llen (t.r_I64 a0)))))
theorem zO {g:G} {t:TE} {a0:List Int} {a1:Int} {r:Int} (hg:g=G.real) (ht:t=TE.real) (h:nV g t a0 a1=r):Fn Tryz.prog 60 [.c (.s 1 (t.r_I64 a0)),.c (.v (.int .i64 a1))] (.c (.r (.v (.int .i64 r)))):=by
 obtain⟨X,hX⟩:=aH (.c (.r (.v (.int .i64 r))):X);rw[←hX];refine aw (rvs:=rv60) (j:=ir60) Tryz.func60 rfl (by kernel_rfl) (nb rfl) (by kernel_rfl) af ?_;intro g2 F hg2 hF;obtain rfl:g2=g:=hg2.unique.trans hg.symm;clear hg2;obtain⟨wrap,lt,_,_,_,_,_,_,_,_,_,_,_,_,sub,_,_,_,_,_,_,llen⟩:=g2;obtain⟨_,_,r_I64⟩:=t
 unfold nV at h;try dsimp only at h
 cbv
 cases hb1:(lt (wrap .i64 (sub a1 (llen (r_I64 a0)))) 0)
 rotate_left
 ·rw[ab hb1] at h;cbv;subst h;exact ARet.mk trivial hX.symm
 rw[aa hb1] at h;cbv;subst h;exact ARet.mk trivial hX.symm
def ir15:J:=js [jq 2 (.box 0),jm 4 (ki 0)] [1,2] (js [jf 5 0 2,jk 6 5,jm 7 1,jc 8 59 [6,7],jm 1 8] [1,2] (.seq (js [jm 9 1,jb 10 .lss .i 9 (ki 0)] [1,2,10] (.cond 10 (js [jq 4 (.mv (.k (V.i (-1))))] [4] .ret) .skip)) (js [jf 11 1 2,jk 12 11,jm 13 1,jc 14 60 [12,13],jm 1 14] [1] (.seq (js [jm 15 1,jb 16 .lss .i 15 (ki 0)] [1,16] (.cond 16 (js [jq 4 (.mv (.k (V.i (-1))))] [4] .ret) .skip)) (js [jm 17 1,jm 4 17] [4] .ret)))))
def rv15:List RV:=[.t 4]
def bD (g:G) (t:TE) (a0:Network) (a1:Int):Int:=
 lP (oh g t a0.Legs a1) fun x1=>
 br (g.lt x1 0)
 (
  (-1))
 (
  lP (nV g t a0.Off x1) fun x2=>
  br (g.lt x2 0)
  (
   (-1))
  (
   x2))
theorem bV {g:G} {t:TE} {a0:Network} {a1:Int} {r:Int} (hg:g=G.real) (ht:t=TE.real) (h:bD g t a0 a1=r):Fn Tryz.prog 15 [.g (Network.rs t a0),.c (.v (.int .i64 a1))] (.c (.r (.v (.int .i64 r)))):=by
 obtain⟨X,hX⟩:=aH (.c (.r (.v (.int .i64 r))):X);rw[←hX];refine aw (rvs:=rv15) (j:=ir15) Tryz.func15 rfl (by kernel_rfl) (nb rfl) (by kernel_rfl) af ?_;intro g2 F hg2 hF;obtain rfl:g2=g:=hg2.unique.trans hg.symm;clear hg2;obtain⟨_,lt⟩:=g2;obtain⟨_⟩:=t
 obtain⟨a0_Legs,a0_Off,a0_Change⟩:=a0;unfold bD at h;try dsimp only at h
 cbv;obtain⟨x1,hx1,h⟩:=ak h;try dsimp only at h
 refine ACall.mk _ _ rfl (hF _ _ _ (z6 hg ht hx1)) (.inl rfl) (nb rfl) ?_;cbv
 cases hb1:(lt x1 0)
 rotate_left
 ·rw[ab hb1] at h;cbv;subst h;exact ARet.mk trivial hX.symm
 rw[aa hb1] at h;cbv;obtain⟨x2,hx2,h⟩:=ak h;try dsimp only at h
 refine ACall.mk _ _ rfl (hF _ _ _ (zO hg ht hx2)) (.inl rfl) (nb rfl) ?_;cbv
 cases hb2:(lt x2 0)
 rotate_left
 ·rw[ab hb2] at h;cbv;subst h;exact ARet.mk trivial hX.symm
 rw[aa hb2] at h;cbv;subst h;exact ARet.mk trivial hX.symm
def ir61:J:=js [jq 2 (.box 0),jm 4 (ki 0)] [1,2] (js [jm 5 1,jf 6 3 2,jk 7 6,jq 8 (.len true 7),jb 9 .sub .i 5 8,jm 1 9] [1] (.seq (js [jm 10 1,jb 11 .lss .i 10 (ki 0)] [1,11] (.cond 11 (js [jq 4 (.mv (.k (V.i (-1))))] [4] .ret) .skip)) (js [jm 12 1,jm 4 12] [4] .ret)))
def rv61:List RV:=[.t 4]
def oE (g:G) (t:TE) (a0:Scan) (a1:Int):Int:=
 br (g.lt (g.wrap .i64 (g.sub a1 (g.int (g.slen a0.Place)))) 0)
 (
  (-1))
 (
  (g.wrap .i64 (g.sub a1 (g.int (g.slen a0.Place)))))
theorem zx {g:G} {t:TE} {a0:Scan} {a1:Int} {r:Int} (hg:g=G.real) (ht:t=TE.real) (h:oE g t a0 a1=r):Fn Tryz.prog 61 [.g (Scan.rs t a0),.c (.v (.int .i64 a1))] (.c (.r (.v (.int .i64 r)))):=by
 obtain⟨X,hX⟩:=aH (.c (.r (.v (.int .i64 r))):X);rw[←hX];refine aw (rvs:=rv61) (j:=ir61) Tryz.func61 rfl (by kernel_rfl) (nb rfl) (by kernel_rfl) af ?_;intro g2 F hg2 hF;obtain rfl:g2=g:=hg2.unique.trans hg.symm;clear hg2;obtain⟨wrap,lt,_,_,_,_,_,_,_,_,_,_,int,_,sub,_,_,_,_,_,_,_,_,_,_,_,_,_,_,_,_,_,_,_,_,slen⟩:=g2;obtain⟨_⟩:=t
 obtain⟨a0_Thing,a0_At,a0_Kind,a0_Place,⟨a0_Trip_Leg,a0_Trip_Day⟩⟩:=a0;unfold oE at h;try dsimp only at h
 cbv
 cases hb1:(lt (wrap .i64 (sub a1 (int (slen a0_Place)))) 0)
 rotate_left
 ·rw[ab hb1] at h;cbv;subst h;exact ARet.mk trivial hX.symm
 rw[aa hb1] at h;cbv;subst h;exact ARet.mk trivial hX.symm
def ir16:J:=js [jm 4 (ki 0)] [0,1] (js [jm 6 1,jm 7 0,jq 8 (.len false 7),jb 9 .sub .i 6 8,jm 1 9] [0,1] (.seq (js [jm 10 1,jb 11 .lss .i 10 (ki 0)] [0,1,11] (.cond 11 (js [jq 4 (.mv (.k (V.i (-1))))] [4] .ret) .skip)) (.seq (js [jm 5 (ki 0)] [0,1,5] (.bl 0 (.seq (js [jm 12 5,jm 13 0,jq 14 (.len false 13),jb 15 .lss .i 12 14] [0,1,5,15] (.cond 15 .skip (.exit 0))) (.seq (.block 1 (js [jm 18 0,jm 19 5,ja 20 6 18 19,jl 21 6 20,jm 22 1,jc 23 61 [21,22],jm 1 23] [0,1,5] (js [jm 24 1,jb 25 .lss .i 24 (ki 0)] [0,1,5,25] (.cond 25 (js [jq 4 (.mv (.k (V.i (-1))))] [4] .ret) .skip)))) (.reg none [jm 16 5,jb 17 .add .i 16 (ki 1),jm 5 17] [0,1,5]))))) (js [jm 26 1,jm 4 26] [4] .ret))))
def rv16:List RV:=[.t 4]
def e8 (g:G) (t:TE):List Scan→Int→LR Int Int
 |[],v1=>
  (LR.out v1)
 |z1::ls1,v1=>
  lP (oE g t (Scan.mk z1.Thing z1.At z1.Kind z1.Place (Trip.mk z1.Trip.Leg z1.Trip.Day)) v1) fun x1=>
  br (g.lt x1 0)
  (
   (LR.ret (-1)))
  (
   e8 g t ls1 x1)
def c7 (g:G) (t:TE) (a0:List Scan) (a1:Int):Int:=
 br (g.lt (g.wrap .i64 (g.sub a1 (g.llen (t.r_Scan a0)))) 0)
 (
  (-1))
 (
  lP (e8 g t a0 (g.wrap .i64 (g.sub a1 (g.llen (t.r_Scan a0))))) fun o1=>lrp o1 fun y1=>
  y1)
theorem db {g:G} {t:TE} {a0:List Scan} {a1:Int} {r:Int} (hg:g=G.real) (ht:t=TE.real) (h:c7 g t a0 a1=r):Fn Tryz.prog 16 [.c (.s 6 (t.r_Scan a0)),.c (.v (.int .i64 a1))] (.c (.r (.v (.int .i64 r)))):=by
 obtain⟨X,hX⟩:=aH (.c (.r (.v (.int .i64 r))):X);rw[←hX];refine aw (rvs:=rv16) (j:=ir16) Tryz.func16 rfl (by kernel_rfl) (nb rfl) (by kernel_rfl) af ?_;intro g2 F hg2 hF;obtain rfl:g2=g:=hg2.unique.trans hg.symm;clear hg2;obtain⟨wrap,lt,_,_,_,_,_,_,_,_,_,_,_,add,sub,_,_,_,_,_,_,llen⟩:=g2;obtain⟨_,_,_,_,r_Scan⟩:=t
 unfold c7 at h;try dsimp only at h
 cbv
 cases hb1:(lt (wrap .i64 (sub a1 (llen (r_Scan a0)))) 0)
 rotate_left
 ·rw[ab hb1] at h;cbv;subst h;exact ARet.mk trivial hX.symm
 rw[aa hb1] at h;cbv;obtain⟨o1,ho1,h⟩:=ak h;try dsimp only at h
 try rw[hg] at ho1
 try rw[ht] at ho1
 refine ABL.mk {p:Nat×Int×Int//p.1≤a0.length∧p.2.1=((p.1:Nat):Int)∧e8 G.real TE.real (List.drop p.1 a0) p.2.2=o1} (fun⟨⟨k1,v2,v1⟩,_⟩=>({sl:=[(0,.c (.r (.s 6 (r_Scan a0)))),(1,.c (.r (.v (.int .i64 v1)))),(5,.c (.r (.v (.int .i64 v2))))],tab:=[]}:St)) 0 (fun p=>a0.length-p.1.1) ⟨(0,0,(wrap .i64 (sub a1 (llen (r_Scan a0))))),Nat.zero_le _,rfl,ho1⟩ (Int) (fun y1=>({sl:=[(1,.c (.r (.v (.int .i64 y1))))],tab:=[]}:St)) 0 (fun y=>o1=LR.out y) ?_ ?_ ?_
 ·refine Wk.of [] rfl rfl ?_ ?_
  ·cbv;all_goals exact⟨⟨_,rfl,rfl⟩,⟨_,rfl,rfl⟩,⟨_,rfl,rfl⟩,trivial⟩
  cbv;all_goals exact trivial
 ·rintro⟨⟨k1,v2,v1⟩,hk1,hi1,h_1⟩ hq1;have hm1:=(hq1.1 0 _ _ rfl);try dsimp only at hk1 hi1 h_1
  clear hq1;cbv
  by_cases hc1_:k1<a0.length
  ·have hb2:lt v2 (llen (r_Scan a0))=true:=gr hg ht hi1 hc1_;have hs1:=jZ hg ht hi1 hc1_ hm1;obtain⟨z1,hz1⟩:=aL hc1_;rw[aD hz1] at h_1;rw[e8] at h_1;obtain⟨z1_Thing,z1_At,z1_Kind,z1_Place,⟨z1_Trip_Leg,z1_Trip_Day⟩⟩:=z1;try rw[←hg] at h_1
   try rw[←ht] at h_1
   try dsimp only at h_1
   rw[hb2];cbv;refine AStep.mk (eO hi1) ?_;cbv;refine AGet.mk _ (bS hg ht hi1 hz1) ?_;cbv;obtain⟨x1,hx1,h_1⟩:=ak h_1;try dsimp only at h_1
   refine ACall.mk _ _ rfl (hF _ _ _ (zx hg ht hx1)) (.inl rfl) (nb rfl) ?_;cbv
   cases hb3:(lt x1 0)
   rotate_left
   ·rw[ab hb3] at h_1;cbv;subst h_1;try dsimp only[lr,lrL,lrp,aR] at h
    subst h;exact ARet.mk trivial hX.symm
   rw[aa hb3] at h_1;cbv;try rw[hg] at h_1
   try rw[ht] at h_1
   refine⟨⟨(k1+1,(wrap .i64 (add v2 1)),x1),hc1_,hs1,h_1⟩,Wk.of [] rfl rfl ?_ ?_,a8 hc1_⟩
   ·cbv;all_goals exact⟨⟨_,rfl,rfl⟩,⟨_,rfl,rfl⟩,⟨_,rfl,rfl⟩,trivial⟩
   cbv;all_goals exact trivial
  have hb2:lt v2 (llen (r_Scan a0))=false:=fz hg ht hi1 hc1_;rw[List.drop_of_length_le (Nat.le_of_not_lt hc1_)] at h_1;rw[e8] at h_1;try rw[←hg] at h_1
  try rw[←ht] at h_1
  try dsimp only at h_1
  rw[hb2];cbv;refine⟨v1,Wk.of [] rfl rfl ?_ ?_,h_1.symm⟩
  ·cbv;all_goals exact⟨⟨_,rfl,rfl⟩,trivial⟩
  cbv;all_goals exact trivial
 rintro y1 hy1;replace hy1:=hy1.symm;subst hy1;try dsimp only[lr,lrL,lrp,aR] at h
 cbv;subst h;exact ARet.mk trivial hX.symm
def ir77:J:=js [jm 4 (ki 0)] [0,1] (.seq (js [jm 5 (ki 0)] [0,1,5] (.bl 0 (.seq (js [jm 6 5,jm 7 0,jq 8 (.len false 7),jb 9 .lss .i 6 8] [0,1,5,9] (.cond 9 .skip (.exit 0))) (.seq (.block 1 (js [jm 12 0,jm 13 5,ja 14 1 12 13,jk 15 14,jm 16 1,jb 17 .eql .s 15 16] [0,1,5,17] (.cond 17 (js [jm 18 5,jm 4 18] [4] .ret) .skip))) (.reg none [jm 10 5,jb 11 .add .i 10 (ki 1),jm 5 11] [0,1,5]))))) (js [jq 4 (.mv (.k (V.i (-1))))] [4] .ret))
def rv77:List RV:=[.t 4]
def eZ (g:G) (t:TE) (a1:ByteArray):List ByteArray→Int→LR Int Unit
 |[],v1=>
  (LR.out ())
 |z1::ls1,v1=>
  br (g.seq z1 a1)
  (
   (LR.ret v1))
  (
   eZ g t a1 ls1 (g.wrap .i64 (g.add v1 1)))
def eQ (g:G) (t:TE) (a0:List ByteArray) (a1:ByteArray):Int:=
 lP (eZ g t a1 a0 0) fun o1=>lrp o1 fun y1=>
 (-1)
theorem fR {g:G} {t:TE} {a0:List ByteArray} {a1:ByteArray} {r:Int} (hg:g=G.real) (ht:t=TE.real) (h:eQ g t a0 a1=r):Fn Tryz.prog 77 [.c (.s 1 (t.r_S a0)),.c (.v (.string a1))] (.c (.r (.v (.int .i64 r)))):=by
 obtain⟨X,hX⟩:=aH (.c (.r (.v (.int .i64 r))):X);rw[←hX];refine aw (rvs:=rv77) (j:=ir77) Tryz.func77 rfl (by kernel_rfl) (nb rfl) (by kernel_rfl) af ?_;intro g2 F hg2 hF;obtain rfl:g2=g:=hg2.unique.trans hg.symm;clear hg2;obtain⟨wrap,lt,_,_,_,_,_,_,_,_,_,_,_,add,_,_,_,seq,_,_,_,llen⟩:=g2;obtain⟨_,_,_,_,_,_,r_S⟩:=t
 unfold eQ at h;try dsimp only at h
 cbv;obtain⟨o1,ho1,h⟩:=ak h;try dsimp only at h
 try rw[hg] at ho1
 try rw[ht] at ho1
 refine ABL.mk {p:Nat×Int//p.1≤a0.length∧p.2=((p.1:Nat):Int)∧eZ G.real TE.real a1 (List.drop p.1 a0) p.2=o1} (fun⟨⟨k1,v1⟩,_⟩=>({sl:=[(0,.c (.r (.s 1 (r_S a0)))),(1,.c (.r (.v (.string a1)))),(5,.c (.r (.v (.int .i64 v1))))],tab:=[]}:St)) 0 (fun p=>a0.length-p.1.1) ⟨(0,0),Nat.zero_le _,rfl,ho1⟩ (Unit) (fun _=>({sl:=[],tab:=[]}:St)) 0 (fun y=>o1=LR.out y) ?_ ?_ ?_
 ·refine Wk.of [] rfl rfl ?_ ?_
  ·cbv;all_goals exact⟨⟨_,rfl,rfl⟩,⟨_,rfl,rfl⟩,⟨_,rfl,rfl⟩,trivial⟩
  cbv;all_goals exact trivial
 ·rintro⟨⟨k1,v1⟩,hk1,hi1,h_1⟩ hq1;have hm1:=(hq1.1 0 _ _ rfl);try dsimp only at hk1 hi1 h_1
  clear hq1;cbv
  by_cases hc1_:k1<a0.length
  ·have hb1:lt v1 (llen (r_S a0))=true:=lK hg ht hi1 hc1_;have hs1:=qe hg ht hi1 hc1_ hm1;obtain⟨z1,hz1⟩:=aL hc1_;rw[aD hz1] at h_1;rw[eZ] at h_1;try rw[←hg] at h_1
   try rw[←ht] at h_1
   try dsimp only at h_1
   rw[hb1];cbv;refine AStep.mk (eO hi1) ?_;cbv;refine AGet.mk _ (qh hg ht hi1 hz1) ?_;cbv
   cases hb2:(seq z1 a1)
   rotate_left
   ·rw[ab hb2] at h_1;cbv;subst h_1;try dsimp only[lr,lrL,lrp,aR] at h
    subst h;exact ARet.mk trivial hX.symm
   rw[aa hb2] at h_1;cbv;try rw[hg] at h_1
   try rw[ht] at h_1
   refine⟨⟨(k1+1,(wrap .i64 (add v1 1))),hc1_,hs1,h_1⟩,Wk.of [] rfl rfl ?_ ?_,a8 hc1_⟩
   ·cbv;all_goals exact⟨⟨_,rfl,rfl⟩,⟨_,rfl,rfl⟩,⟨_,rfl,rfl⟩,trivial⟩
   cbv;all_goals exact trivial
  have hb1:lt v1 (llen (r_S a0))=false:=kG hg ht hi1 hc1_;rw[List.drop_of_length_le (Nat.le_of_not_lt hc1_)] at h_1;rw[eZ] at h_1;try rw[←hg] at h_1
  try rw[←ht] at h_1
  try dsimp only at h_1
  rw[hb1];cbv;refine⟨(),Wk.of [] rfl rfl ?_ ?_,h_1.symm⟩
  ·cbv;all_goals exact trivial
  cbv;all_goals exact trivial
 rintro _ hy1;replace hy1:=hy1.symm;subst hy1;try dsimp only[lr,lrL,lrp,aR] at h
 cbv;subst h;exact ARet.mk trivial hX.symm
def ir78:J:=js [jq 1 (.box 0),jq 2 (.mv (.k (.c (.n 1))))] [1] (js [jq 7 (.bsl 1 []),jm 3 7] [1,3] (.seq (js [jm 4 (ki 0)] [1,3,4] (.bl 0 (.seq (js [jm 8 4,jf 9 0 1,jk 10 9,jq 11 (.len false 10),jb 12 .mul .i (ki 2) 11,jb 13 .lss .i 8 12] [1,3,4,13] (.cond 13 .skip (.exit 0))) (.seq (.block 1 (js [jf 16 0 1,jk 17 16,jm 18 4,jb 19 .quo .i 18 (ki 2),ja 20 6 17 19,jf 21 0 20,jk 22 21,jm 5 22] [1,3,4,5] (.seq (js [jm 23 4,jb 24 .rem .i 23 (ki 2),jb 25 .eql .i 24 (ki 1)] [1,3,4,5,25] (.cond 25 (.reg none [jf 26 0 1,jk 27 26,jm 28 4,jb 29 .quo .i 28 (ki 2),ja 30 6 27 29,jf 31 1 30,jk 32 31,jm 5 32] [1,3,4,5]) .skip)) (js [jm 6 (ki 0)] [1,3,4,5,6] (.seq (.bl 2 (.seq (js [jm 33 6,jm 34 3,jq 35 (.len false 34),jb 36 .lss .i 33 35,jm 37 36,ju 38 37 (.mv 3),ju 39 37 (.mv 6),ju 40 37 (.ia 1 38 39),ju 41 37 (.ld false 1 40),ju 42 37 (.mv 5),ju 43 37 (.bin .lss .s 41 42),jq 44 (.pick 37 43 kf)] [1,3,4,5,6,44] (.cond 44 .skip (.exit 2))) (.block 3 (.reg none [jm 45 6,jb 46 .add .i 45 (ki 1),jm 6 46] [1,3,4,5,6])))) (js [jm 47 6,jm 48 3,jq 49 (.len false 48),jb 50 .eql .i 47 49,jm 51 50,jv 52 51 (.mv 3),jv 53 51 (.mv 6),jv 54 51 (.ia 1 52 53),jv 55 51 (.ld false 1 54),jv 56 51 (.mv 5),jv 57 51 (.bin .neq .s 55 56),jq 58 (.pick 51 kt 57)] [1,3,4,5,6,58] (.cond 58 (.reg (some [[],[],[],[1,2],[0,1,2,3],[],[5],[0,1,2,3,4,5,6],[],[],[8,9],[0,1,2,3,4,5,6,7,8,9,10],[0,1,2,3,4,5,6,7,8,9,10,11]]) [jq 59 (.bsl 1 []),jm 60 3,jm 61 6,jq 62 (.sl 1 60 none (some 61)),jq 63 (.app 1 16 false 59 62),jm 64 5,jq 65 (.bsl 1 [64]),jq 66 (.app 1 16 true 63 65),jm 67 3,jm 68 6,jq 69 (.sl 1 67 (some 68) none),jq 70 (.app 1 16 false 66 69),jm 3 70] [1,3,4]) .skip))))))) (.reg none [jm 14 4,jb 15 .add .i 14 (ki 1),jm 4 15] [1,3,4]))))) (js [jm 71 3,jm 2 71] [2] .ret)))
def rv78:List RV:=[.t 2]
def dp (g:G) (t:TE) (w1:List ByteArray) (x1:Leg):Nat→Int→Option Int
 |0,v3=>
  some v3
 |n3+1,v3=>
  gt w1 (g.nat v3) fun x4=>
  br (g.slt x4 x1.From)
  (
   dp g t w1 x1 n3 (g.wrap .i64 (g.add v3 1)))
  (
   some v3)
def dt (g:G) (t:TE) (w1:List ByteArray) (x1:Leg):Nat→Int→Option Int
 |0,v2=>
  some v2
 |n2+1,v2=>
  gt w1 (g.nat v2) fun x2=>
  br (g.slt x2 x1.To)
  (
   dt g t w1 x1 n2 (g.wrap .i64 (g.add v2 1)))
  (
   some v2)
def bc (g:G) (t:TE) (a0:Network):Nat→Int→List ByteArray→Option (List ByteArray)
 |0,v1,w1=>
  some w1
 |n1+1,v1,w1=>
  gd (((0:Int)≤(g.wrap .i64 (g.quo v1 2))))<|
  gt a0.Legs (g.nat (g.wrap .i64 (g.quo v1 2))) fun x1=>
  br (g.eq (g.rem v1 2) 1)
  (
   gd (((0:Int)≤(g.wrap .i64 (g.quo v1 2))))<|
   gd (((g.int (g.dlen (t.d_S w1)))≤9223372036854775807))<|
   cl (dt g t w1 x1 (ay 0 (g.int (g.dlen (t.d_S w1)))) 0) fun y1=>
   br (g.eq y1 (g.int (g.dlen (t.d_S w1))))
   (
    lP ([]) fun(l2:List ByteArray)=>
    gd (((0:Int)≤0∧0≤y1∧y1≤(((g.dlen (t.d_S w1)):Nat):Int)))<|
    gd (((g.nat 0)+(g.nsub (g.nat y1) (g.nat 0))≤w1.length))<|
    gd (((l2.length+(List.take (g.nsub (g.nat y1) (g.nat 0)) (List.drop (g.nat 0) w1)).length)*16≤70368744177664))<|
    lP (l2++(List.take (g.nsub (g.nat y1) (g.nat 0)) (List.drop (g.nat 0) w1))) fun(l3:List ByteArray)=>
    lP ([x1.To]) fun(l4:List ByteArray)=>
    gd (((l3.length+l4.length)*16≤70368744177664))<|
    lP (l3++l4) fun(l5:List ByteArray)=>
    gd (((0:Int)≤y1∧y1≤(g.int (g.dlen (t.d_S w1)))∧(g.int (g.dlen (t.d_S w1)))≤(((g.dlen (t.d_S w1)):Nat):Int)))<|
    gd (((g.nat y1)+(g.nsub (g.nat (g.int (g.dlen (t.d_S w1)))) (g.nat y1))≤w1.length))<|
    gd (((l5.length+(List.take (g.nsub (g.nat (g.int (g.dlen (t.d_S w1)))) (g.nat y1)) (List.drop (g.nat y1) w1)).length)*16≤70368744177664))<|
    lP (l5++(List.take (g.nsub (g.nat (g.int (g.dlen (t.d_S w1)))) (g.nat y1)) (List.drop (g.nat y1) w1))) fun(l6:List ByteArray)=>
    bc g t a0 n1 (g.wrap .i64 (g.add v1 1)) l6)
   (
    gd (((0:Int)≤y1∧y1<(((g.dlen (t.d_S w1)):Nat):Int)))<|
    gt w1 (g.nat y1) fun x3=>
    br (g.seq x3 x1.To)
    (
     bc g t a0 n1 (g.wrap .i64 (g.add v1 1)) w1)
    (
     lP ([]) fun(l7:List ByteArray)=>
     gd (((0:Int)≤0∧0≤y1∧y1≤(((g.dlen (t.d_S w1)):Nat):Int)))<|
     gd (((g.nat 0)+(g.nsub (g.nat y1) (g.nat 0))≤w1.length))<|
     gd (((l7.length+(List.take (g.nsub (g.nat y1) (g.nat 0)) (List.drop (g.nat 0) w1)).length)*16≤70368744177664))<|
     lP (l7++(List.take (g.nsub (g.nat y1) (g.nat 0)) (List.drop (g.nat 0) w1))) fun(l8:List ByteArray)=>
     lP ([x1.To]) fun(l9:List ByteArray)=>
     gd (((l8.length+l9.length)*16≤70368744177664))<|
     lP (l8++l9) fun(l10:List ByteArray)=>
     gd (((0:Int)≤y1∧y1≤(g.int (g.dlen (t.d_S w1)))∧(g.int (g.dlen (t.d_S w1)))≤(((g.dlen (t.d_S w1)):Nat):Int)))<|
     gd (((g.nat y1)+(g.nsub (g.nat (g.int (g.dlen (t.d_S w1)))) (g.nat y1))≤w1.length))<|
     gd (((l10.length+(List.take (g.nsub (g.nat (g.int (g.dlen (t.d_S w1)))) (g.nat y1)) (List.drop (g.nat y1) w1)).length)*16≤70368744177664))<|
     lP (l10++(List.take (g.nsub (g.nat (g.int (g.dlen (t.d_S w1)))) (g.nat y1)) (List.drop (g.nat y1) w1))) fun(l11:List ByteArray)=>
     bc g t a0 n1 (g.wrap .i64 (g.add v1 1)) l11)))
  (
   gd (((g.int (g.dlen (t.d_S w1)))≤9223372036854775807))<|
   cl (dp g t w1 x1 (ay 0 (g.int (g.dlen (t.d_S w1)))) 0) fun y2=>
   br (g.eq y2 (g.int (g.dlen (t.d_S w1))))
   (
    lP ([]) fun(l12:List ByteArray)=>
    gd (((0:Int)≤0∧0≤y2∧y2≤(((g.dlen (t.d_S w1)):Nat):Int)))<|
    gd (((g.nat 0)+(g.nsub (g.nat y2) (g.nat 0))≤w1.length))<|
    gd (((l12.length+(List.take (g.nsub (g.nat y2) (g.nat 0)) (List.drop (g.nat 0) w1)).length)*16≤70368744177664))<|
    lP (l12++(List.take (g.nsub (g.nat y2) (g.nat 0)) (List.drop (g.nat 0) w1))) fun(l13:List ByteArray)=>
    lP ([x1.From]) fun(l14:List ByteArray)=>
    gd (((l13.length+l14.length)*16≤70368744177664))<|
    lP (l13++l14) fun(l15:List ByteArray)=>
    gd (((0:Int)≤y2∧y2≤(g.int (g.dlen (t.d_S w1)))∧(g.int (g.dlen (t.d_S w1)))≤(((g.dlen (t.d_S w1)):Nat):Int)))<|
    gd (((g.nat y2)+(g.nsub (g.nat (g.int (g.dlen (t.d_S w1)))) (g.nat y2))≤w1.length))<|
    gd (((l15.length+(List.take (g.nsub (g.nat (g.int (g.dlen (t.d_S w1)))) (g.nat y2)) (List.drop (g.nat y2) w1)).length)*16≤70368744177664))<|
    lP (l15++(List.take (g.nsub (g.nat (g.int (g.dlen (t.d_S w1)))) (g.nat y2)) (List.drop (g.nat y2) w1))) fun(l16:List ByteArray)=>
    bc g t a0 n1 (g.wrap .i64 (g.add v1 1)) l16)
   (
    gd (((0:Int)≤y2∧y2<(((g.dlen (t.d_S w1)):Nat):Int)))<|
    gt w1 (g.nat y2) fun x5=>
    br (g.seq x5 x1.From)
    (
     bc g t a0 n1 (g.wrap .i64 (g.add v1 1)) w1)
    (
     lP ([]) fun(l17:List ByteArray)=>
     gd (((0:Int)≤0∧0≤y2∧y2≤(((g.dlen (t.d_S w1)):Nat):Int)))<|
     gd (((g.nat 0)+(g.nsub (g.nat y2) (g.nat 0))≤w1.length))<|
     gd (((l17.length+(List.take (g.nsub (g.nat y2) (g.nat 0)) (List.drop (g.nat 0) w1)).length)*16≤70368744177664))<|
     lP (l17++(List.take (g.nsub (g.nat y2) (g.nat 0)) (List.drop (g.nat 0) w1))) fun(l18:List ByteArray)=>
     lP ([x1.From]) fun(l19:List ByteArray)=>
     gd (((l18.length+l19.length)*16≤70368744177664))<|
     lP (l18++l19) fun(l20:List ByteArray)=>
     gd (((0:Int)≤y2∧y2≤(g.int (g.dlen (t.d_S w1)))∧(g.int (g.dlen (t.d_S w1)))≤(((g.dlen (t.d_S w1)):Nat):Int)))<|
     gd (((g.nat y2)+(g.nsub (g.nat (g.int (g.dlen (t.d_S w1)))) (g.nat y2))≤w1.length))<|
     gd (((l20.length+(List.take (g.nsub (g.nat (g.int (g.dlen (t.d_S w1)))) (g.nat y2)) (List.drop (g.nat y2) w1)).length)*16≤70368744177664))<|
     lP (l20++(List.take (g.nsub (g.nat (g.int (g.dlen (t.d_S w1)))) (g.nat y2)) (List.drop (g.nat y2) w1))) fun(l21:List ByteArray)=>
     bc g t a0 n1 (g.wrap .i64 (g.add v1 1)) l21)))
def dU (g:G) (t:TE) (a0:Network):Option (List ByteArray):=
 lP ([]) fun(l1:List ByteArray)=>
 gd (((g.wrap .i64 (g.mul 2 (g.llen (t.r_Leg a0.Legs))))≤9223372036854775807))<|
 cl (bc g t a0 (ay 0 (g.wrap .i64 (g.mul 2 (g.llen (t.r_Leg a0.Legs))))) 0 l1) fun y3=>
 some y3
theorem fg {g:G} {t:TE} {a0:Network} {r:List ByteArray} (hg:g=G.real) (ht:t=TE.real) (h:dU g t a0=some r):Fn Tryz.prog 78 [.g (Network.rs t a0)] (.c (.o 1 (t.d_S r))):=by
 obtain⟨X,hX⟩:=aH (.c (.o 1 (t.d_S r)):X);rw[←hX];refine aw (rvs:=rv78) (j:=ir78) Tryz.func78 rfl (by kernel_rfl) (nb rfl) (by kernel_rfl) af ?_;intro g2 F hg2 hF;obtain rfl:g2=g:=hg2.unique.trans hg.symm;clear hg2;obtain⟨wrap,lt,_,eq,_,rem,_,_,_,_,_,_,int,add,_,mul,_,seq,slt,_,_,llen,_,_,dlen⟩:=g2;obtain⟨r_Leg,_,r_I64,_,_,_,_,d_S⟩:=t
 obtain⟨a0_Legs,a0_Off,a0_Change⟩:=a0;unfold dU at h;try dsimp only at h
 cbv;obtain⟨l1,hl1,h⟩:=ak h;try dsimp only at h
 refine ANew.mk (d_S l1) (dlen (d_S l1)) (by rw[←hl1];exact jG hg ht []) (by rw[←hl1];exact gD hg ht []) ?_;cbv;obtain⟨hB1,h⟩:=al h;obtain⟨o1,ho1,h⟩:=ac h;try dsimp only at h
 try rw[hg] at ho1
 try rw[ht] at ho1
 refine ABL.mk {p:Nat×Int×List ByteArray//p.1=ay p.2.1 (wrap .i64 (mul 2 (llen (r_Leg a0_Legs))))∧0≤p.2.1∧bc G.real TE.real (Network.mk a0_Legs a0_Off a0_Change) p.1 p.2.1 p.2.2=some o1} (fun⟨⟨n1,v1,w1⟩,_⟩=>({sl:=[(1,.c (.p 0 3 0 0)),(3,.c (.f 1 1 0 (dlen (d_S w1)))),(4,.c (.r (.v (.int .i64 v1))))],tab:=[(0,some (.foc 3 [] [.r (.s 6 (r_Leg a0_Legs)),.r (.s 1 (r_I64 a0_Off)),.r (.v (.int .i64 a0_Change))] [])),(1,some (.arr 1 (d_S w1)))]}:St)) 2 (fun p=>p.1.1) ⟨(ay 0 (wrap .i64 (mul 2 (llen (r_Leg a0_Legs)))),0,l1),rfl,Int.le_refl _,ho1⟩ (List ByteArray) (fun y3=>({sl:=[(3,.c (.f 0 1 0 (dlen (d_S y3))))],tab:=[(0,some (.arr 1 (d_S y3)))]}:St)) 1 (fun y=>o1=y) ?_ ?_ ?_
 ·refine Wk.of [(0,some 0),(1,some 32)] rfl rfl ?_ ?_
  ·cbv;all_goals exact⟨⟨_,rfl,rfl⟩,⟨_,rfl,rfl⟩,⟨_,rfl,rfl⟩,trivial⟩
  cbv;all_goals exact⟨⟨_,rfl,_,rfl,rfl,rfl,rfl,trivial⟩,⟨_,rfl,rfl⟩,trivial⟩
 ·rintro⟨⟨n1,v1,w1⟩,hn1,hi1,h_1⟩ hq1;try dsimp only at hn1 hi1 h_1
  clear hq1;cbv;rcases n1 with _|n1
  ·have hb1:lt v1 (wrap .i64 (mul 2 (llen (r_Leg a0_Legs))))=false:=bu hg hn1;rw[bc] at h_1;try rw[←hg] at h_1
   try rw[←ht] at h_1
   try dsimp only at h_1
   rw[hb1];cbv;refine⟨w1,Wk.of [(0,some 1)] rfl rfl ?_ ?_,(Option.some.inj h_1).symm⟩
   ·cbv;all_goals exact⟨⟨_,rfl,rfl⟩,trivial⟩
   cbv;all_goals exact⟨⟨_,rfl,rfl⟩,trivial⟩
  have hb1:lt v1 (wrap .i64 (mul 2 (llen (r_Leg a0_Legs))))=true:=bF hg hn1;have hl1:=d8 hn1;have hs1:=cM hg hn1 hi1 hB1 (by decide);rw[bc] at h_1;try rw[←hg] at h_1
  try rw[←ht] at h_1
  try dsimp only at h_1
  rw[hb1];cbv;refine AStep.mk (by decide) ?_;cbv;obtain⟨hc1,h_1⟩:=al h_1;refine AStep.mk hc1 ?_;cbv;obtain⟨x1,hx1,h_1⟩:=aE h_1;obtain⟨x1_From,x1_To,x1_Start,x1_Takes,x1_Days,x1_Room⟩:=x1;try dsimp only at h_1
  refine AGet.mk _ (aF hg ht hx1) ?_;cbv;refine AStep.mk (by decide) ?_;cbv
  cases hb2:(eq (rem v1 2) 1)
  ·rw[aa hb2] at h_1;cbv;obtain⟨hB3,h_1⟩:=al h_1;obtain⟨o3,ho3,h_1⟩:=ac h_1;try dsimp only at h_1
   try rw[hg] at ho3
   try rw[ht] at ho3
   refine ABL.mk {p:Nat×Int//p.1=ay p.2 (int (dlen (d_S w1)))∧0≤p.2∧dp G.real TE.real w1 (Leg.mk x1_From x1_To x1_Start x1_Takes x1_Days x1_Room) p.1 p.2=some o3} (fun⟨⟨n3,v3⟩,_⟩=>({sl:=[(1,.c (.p 0 3 0 0)),(3,.c (.f 1 1 0 (dlen (d_S w1)))),(4,.c (.r (.v (.int .i64 v1)))),(5,.c (.r (.v (.string x1_From)))),(6,.c (.r (.v (.int .i64 v3))))],tab:=[(0,some (.foc 3 [] [.r (.s 6 (r_Leg a0_Legs)),.r (.s 1 (r_I64 a0_Off)),.r (.v (.int .i64 a0_Change))] [])),(1,some (.arr 1 (d_S w1)))]}:St)) 2 (fun p=>p.1.1) ⟨(ay 0 (int (dlen (d_S w1))),0),rfl,Int.le_refl _,ho3⟩ (Int) (fun y2=>({sl:=[(1,.c (.p 0 3 0 0)),(3,.c (.f 1 1 0 (dlen (d_S w1)))),(4,.c (.r (.v (.int .i64 v1)))),(5,.c (.r (.v (.string x1_From)))),(6,.c (.r (.v (.int .i64 y2))))],tab:=[(0,some (.foc 3 [] [.r (.s 6 (r_Leg a0_Legs)),.r (.s 1 (r_I64 a0_Off)),.r (.v (.int .i64 a0_Change))] [])),(1,some (.arr 1 (d_S w1)))]}:St)) 2 (fun y=>o3=y) ?_ ?_ ?_
   ·refine Wk.of [(0,some 0),(1,some 1)] rfl rfl ?_ ?_
    ·cbv;all_goals exact⟨⟨_,rfl,rfl⟩,⟨_,rfl,rfl⟩,⟨_,rfl,rfl⟩,⟨_,rfl,rfl⟩,⟨_,rfl,rfl⟩,trivial⟩
    cbv;all_goals exact⟨⟨_,rfl,_,rfl,rfl,rfl,rfl,trivial⟩,⟨_,rfl,rfl⟩,trivial⟩
   ·rintro⟨⟨n3,v3⟩,hn3,hi3,h_3⟩ hq3;try dsimp only at hn3 hi3 h_3
    clear hq3;cbv;rcases n3 with _|n3
    ·have hb7:lt v3 (int (dlen (d_S w1)))=false:=bu hg hn3;rw[dp] at h_3;try rw[←hg] at h_3
     try rw[←ht] at h_3
     try dsimp only at h_3
     rw[hb7];cbv;iterate 6 try(rw[hb7];cbv)
     refine⟨v3,Wk.of [(0,some 0),(1,some 1)] rfl rfl ?_ ?_,(Option.some.inj h_3).symm⟩
     ·cbv;all_goals exact⟨⟨_,rfl,rfl⟩,⟨_,rfl,rfl⟩,⟨_,rfl,rfl⟩,⟨_,rfl,rfl⟩,⟨_,rfl,rfl⟩,trivial⟩
     cbv;all_goals exact⟨⟨_,rfl,_,rfl,rfl,rfl,rfl,trivial⟩,⟨_,rfl,rfl⟩,trivial⟩
    have hb7:lt v3 (int (dlen (d_S w1)))=true:=bF hg hn3;have hl3:=d8 hn3;have hs3:=cM hg hn3 hi3 hB3 (by decide);rw[dp] at h_3;try rw[←hg] at h_3
    try rw[←ht] at h_3
    try dsimp only at h_3
    rw[hb7];cbv;iterate 2 try(rw[hb7];cbv)
    refine AStep.mk (dR hg hi3 hl3) ?_;cbv;try(rw[hb7];cbv)
    obtain⟨x4,hx4,h_3⟩:=aE h_3;try dsimp only at h_3
    refine AGet.mk _ (g9 hg ht hx4) ?_;cbv;iterate 3 try(rw[hb7];cbv)
    cases hb8:(slt x4 x1_From)
    ·rw[aa hb8] at h_3;cbv;refine⟨v3,Wk.of [(0,some 0),(1,some 1)] rfl rfl ?_ ?_,(Option.some.inj h_3).symm⟩
     ·cbv;all_goals exact⟨⟨_,rfl,rfl⟩,⟨_,rfl,rfl⟩,⟨_,rfl,rfl⟩,⟨_,rfl,rfl⟩,⟨_,rfl,rfl⟩,trivial⟩
     cbv;all_goals exact⟨⟨_,rfl,_,rfl,rfl,rfl,rfl,trivial⟩,⟨_,rfl,rfl⟩,trivial⟩
    rw[ab hb8] at h_3;cbv;try rw[hg] at h_3
    try rw[ht] at h_3
    refine⟨⟨(n3,(wrap .i64 (add v3 1))),hs3.1,hs3.2,h_3⟩,Wk.of [(0,some 0),(1,some 1)] rfl rfl ?_ ?_,Nat.lt_succ_self _⟩
    ·cbv;all_goals exact⟨⟨_,rfl,rfl⟩,⟨_,rfl,rfl⟩,⟨_,rfl,rfl⟩,⟨_,rfl,rfl⟩,⟨_,rfl,rfl⟩,trivial⟩
    cbv;all_goals exact⟨⟨_,rfl,_,rfl,rfl,rfl,rfl,trivial⟩,⟨_,rfl,rfl⟩,trivial⟩
   rintro y2 hy3;replace hy3:=hy3.symm;subst hy3;try dsimp only[lr,lrL,lrp,aR] at h_1
   cbv
   cases hb9:(eq y2 (int (dlen (d_S w1))))
   rotate_left
   ·rw[ab hb9] at h_1;cbv;iterate 6 try(rw[hb9];cbv)
    obtain⟨l12,hl12,h_1⟩:=ak h_1;try dsimp only at h_1
    refine ANew.mk (d_S l12) (dlen (d_S l12)) (by rw[←hl12];exact jG hg ht []) (by rw[←hl12];exact gD hg ht []) ?_;cbv;obtain⟨hc18,h_1⟩:=al h_1;refine AStep.mk hc18 ?_;cbv;obtain⟨hc23,h_1⟩:=al h_1;obtain⟨hc24,h_1⟩:=al h_1;refine AStep.mk ⟨(i5 hg ht hc23),(dF hg ht (aq hg ht _) (ec hg ht _ _ _) hc24)⟩ ?_;cbv;obtain⟨l13,hl13,h_1⟩:=ak h_1;try dsimp only at h_1
    refine ANew.mk (d_S l13) (dlen (d_S l13)) (by rw[←hl13];exact kr hg ht (aq hg ht _) (ec hg ht _ _ _)) (by rw[←hl13];exact gY hg ht (aq hg ht _) (ec hg ht _ _ _)) ?_;cbv;obtain⟨l14,hl14,h_1⟩:=ak h_1;try dsimp only at h_1
    refine ANew.mk (d_S l14) (dlen (d_S l14)) (by rw[←hl14];exact jG hg ht [x1_From]) (by rw[←hl14];exact gD hg ht [x1_From]) ?_;cbv;obtain⟨hc22,h_1⟩:=al h_1;refine AStep.mk ⟨⟨rfl,(aq hg ht _)⟩,(dF hg ht (aq hg ht _) rfl hc22)⟩ ?_;cbv;obtain⟨l15,hl15,h_1⟩:=ak h_1;try dsimp only at h_1
    refine ANew.mk (d_S l15) (dlen (d_S l15)) (by rw[←hl15];exact kr hg ht (aq hg ht _) rfl) (by rw[←hl15];exact gY hg ht (aq hg ht _) rfl) ?_;cbv;obtain⟨hc19,h_1⟩:=al h_1;refine AStep.mk hc19 ?_;cbv;obtain⟨hc20,h_1⟩:=al h_1;obtain⟨hc21,h_1⟩:=al h_1;refine AStep.mk ⟨(i5 hg ht hc20),(dF hg ht (aq hg ht _) (ec hg ht _ _ _) hc21)⟩ ?_;cbv;obtain⟨l16,hl16,h_1⟩:=ak h_1;try dsimp only at h_1
    refine ANew.mk (d_S l16) (dlen (d_S l16)) (by rw[←hl16];exact kr hg ht (aq hg ht _) (ec hg ht _ _ _)) (by rw[←hl16];exact gY hg ht (aq hg ht _) (ec hg ht _ _ _)) ?_;cbv;try rw[hg] at h_1
    try rw[ht] at h_1
    refine⟨⟨(n1,(wrap .i64 (add v1 1)),l16),hs1.1,hs1.2,h_1⟩,Wk.of [(0,some 0),(1,some 370)] rfl rfl ?_ ?_,Nat.lt_succ_self _⟩
    ·cbv;all_goals exact⟨⟨_,rfl,rfl⟩,⟨_,rfl,rfl⟩,⟨_,rfl,rfl⟩,trivial⟩
    cbv;all_goals exact⟨⟨_,rfl,_,rfl,rfl,rfl,rfl,trivial⟩,⟨_,rfl,rfl⟩,trivial⟩
   rw[aa hb9] at h_1;cbv;iterate 2 try(rw[hb9];cbv)
   obtain⟨hc25,h_1⟩:=al h_1;refine AStep.mk hc25 ?_;cbv;try(rw[hb9];cbv)
   obtain⟨x5,hx5,h_1⟩:=aE h_1;try dsimp only at h_1
   refine AGet.mk _ (g9 hg ht hx5) ?_;cbv;iterate 3 try(rw[hb9];cbv)
   cases hb10:(seq x5 x1_From)
   rotate_left
   ·rw[ab hb10] at h_1;cbv;try rw[hg] at h_1
    try rw[ht] at h_1
    refine⟨⟨(n1,(wrap .i64 (add v1 1)),w1),hs1.1,hs1.2,h_1⟩,Wk.of [(0,some 0),(1,some 1)] rfl rfl ?_ ?_,Nat.lt_succ_self _⟩
    ·cbv;all_goals exact⟨⟨_,rfl,rfl⟩,⟨_,rfl,rfl⟩,⟨_,rfl,rfl⟩,trivial⟩
    cbv;all_goals exact⟨⟨_,rfl,_,rfl,rfl,rfl,rfl,trivial⟩,⟨_,rfl,rfl⟩,trivial⟩
   rw[aa hb10] at h_1;cbv;obtain⟨l17,hl17,h_1⟩:=ak h_1;try dsimp only at h_1
   refine ANew.mk (d_S l17) (dlen (d_S l17)) (by rw[←hl17];exact jG hg ht []) (by rw[←hl17];exact gD hg ht []) ?_;cbv;obtain⟨hc26,h_1⟩:=al h_1;refine AStep.mk hc26 ?_;cbv;obtain⟨hc31,h_1⟩:=al h_1;obtain⟨hc32,h_1⟩:=al h_1;refine AStep.mk ⟨(i5 hg ht hc31),(dF hg ht (aq hg ht _) (ec hg ht _ _ _) hc32)⟩ ?_;cbv;obtain⟨l18,hl18,h_1⟩:=ak h_1;try dsimp only at h_1
   refine ANew.mk (d_S l18) (dlen (d_S l18)) (by rw[←hl18];exact kr hg ht (aq hg ht _) (ec hg ht _ _ _)) (by rw[←hl18];exact gY hg ht (aq hg ht _) (ec hg ht _ _ _)) ?_;cbv;obtain⟨l19,hl19,h_1⟩:=ak h_1;try dsimp only at h_1
   refine ANew.mk (d_S l19) (dlen (d_S l19)) (by rw[←hl19];exact jG hg ht [x1_From]) (by rw[←hl19];exact gD hg ht [x1_From]) ?_;cbv;obtain⟨hc30,h_1⟩:=al h_1;refine AStep.mk ⟨⟨rfl,(aq hg ht _)⟩,(dF hg ht (aq hg ht _) rfl hc30)⟩ ?_;cbv;obtain⟨l20,hl20,h_1⟩:=ak h_1;try dsimp only at h_1
   refine ANew.mk (d_S l20) (dlen (d_S l20)) (by rw[←hl20];exact kr hg ht (aq hg ht _) rfl) (by rw[←hl20];exact gY hg ht (aq hg ht _) rfl) ?_;cbv;obtain⟨hc27,h_1⟩:=al h_1;refine AStep.mk hc27 ?_;cbv;obtain⟨hc28,h_1⟩:=al h_1;obtain⟨hc29,h_1⟩:=al h_1;refine AStep.mk ⟨(i5 hg ht hc28),(dF hg ht (aq hg ht _) (ec hg ht _ _ _) hc29)⟩ ?_;cbv;obtain⟨l21,hl21,h_1⟩:=ak h_1;try dsimp only at h_1
   refine ANew.mk (d_S l21) (dlen (d_S l21)) (by rw[←hl21];exact kr hg ht (aq hg ht _) (ec hg ht _ _ _)) (by rw[←hl21];exact gY hg ht (aq hg ht _) (ec hg ht _ _ _)) ?_;cbv;try rw[hg] at h_1
   try rw[ht] at h_1
   refine⟨⟨(n1,(wrap .i64 (add v1 1)),l21),hs1.1,hs1.2,h_1⟩,Wk.of [(0,some 0),(1,some 370)] rfl rfl ?_ ?_,Nat.lt_succ_self _⟩
   ·cbv;all_goals exact⟨⟨_,rfl,rfl⟩,⟨_,rfl,rfl⟩,⟨_,rfl,rfl⟩,trivial⟩
   cbv;all_goals exact⟨⟨_,rfl,_,rfl,rfl,rfl,rfl,trivial⟩,⟨_,rfl,rfl⟩,trivial⟩
  rw[ab hb2] at h_1;cbv;refine AStep.mk (by decide) ?_;cbv;obtain⟨hc2,h_1⟩:=al h_1;refine AStep.mk hc2 ?_;cbv;refine AGet.mk _ (aF hg ht hx1) ?_;cbv;obtain⟨hB2,h_1⟩:=al h_1;obtain⟨o2,ho2,h_1⟩:=ac h_1;try dsimp only at h_1
  try rw[hg] at ho2
  try rw[ht] at ho2
  refine ABL.mk {p:Nat×Int//p.1=ay p.2 (int (dlen (d_S w1)))∧0≤p.2∧dt G.real TE.real w1 (Leg.mk x1_From x1_To x1_Start x1_Takes x1_Days x1_Room) p.1 p.2=some o2} (fun⟨⟨n2,v2⟩,_⟩=>({sl:=[(1,.c (.p 0 3 0 0)),(3,.c (.f 1 1 0 (dlen (d_S w1)))),(4,.c (.r (.v (.int .i64 v1)))),(5,.c (.r (.v (.string x1_To)))),(6,.c (.r (.v (.int .i64 v2))))],tab:=[(0,some (.foc 3 [] [.r (.s 6 (r_Leg a0_Legs)),.r (.s 1 (r_I64 a0_Off)),.r (.v (.int .i64 a0_Change))] [])),(1,some (.arr 1 (d_S w1)))]}:St)) 2 (fun p=>p.1.1) ⟨(ay 0 (int (dlen (d_S w1))),0),rfl,Int.le_refl _,ho2⟩ (Int) (fun y1=>({sl:=[(1,.c (.p 0 3 0 0)),(3,.c (.f 1 1 0 (dlen (d_S w1)))),(4,.c (.r (.v (.int .i64 v1)))),(5,.c (.r (.v (.string x1_To)))),(6,.c (.r (.v (.int .i64 y1))))],tab:=[(0,some (.foc 3 [] [.r (.s 6 (r_Leg a0_Legs)),.r (.s 1 (r_I64 a0_Off)),.r (.v (.int .i64 a0_Change))] [])),(1,some (.arr 1 (d_S w1)))]}:St)) 2 (fun y=>o2=y) ?_ ?_ ?_
  ·refine Wk.of [(0,some 0),(1,some 1)] rfl rfl ?_ ?_
   ·cbv;all_goals exact⟨⟨_,rfl,rfl⟩,⟨_,rfl,rfl⟩,⟨_,rfl,rfl⟩,⟨_,rfl,rfl⟩,⟨_,rfl,rfl⟩,trivial⟩
   cbv;all_goals exact⟨⟨_,rfl,_,rfl,rfl,rfl,rfl,trivial⟩,⟨_,rfl,rfl⟩,trivial⟩
  ·rintro⟨⟨n2,v2⟩,hn2,hi2,h_2⟩ hq2;try dsimp only at hn2 hi2 h_2
   clear hq2;cbv;rcases n2 with _|n2
   ·have hb3:lt v2 (int (dlen (d_S w1)))=false:=bu hg hn2;rw[dt] at h_2;try rw[←hg] at h_2
    try rw[←ht] at h_2
    try dsimp only at h_2
    rw[hb3];cbv;iterate 6 try(rw[hb3];cbv)
    refine⟨v2,Wk.of [(0,some 0),(1,some 1)] rfl rfl ?_ ?_,(Option.some.inj h_2).symm⟩
    ·cbv;all_goals exact⟨⟨_,rfl,rfl⟩,⟨_,rfl,rfl⟩,⟨_,rfl,rfl⟩,⟨_,rfl,rfl⟩,⟨_,rfl,rfl⟩,trivial⟩
    cbv;all_goals exact⟨⟨_,rfl,_,rfl,rfl,rfl,rfl,trivial⟩,⟨_,rfl,rfl⟩,trivial⟩
   have hb3:lt v2 (int (dlen (d_S w1)))=true:=bF hg hn2;have hl2:=d8 hn2;have hs2:=cM hg hn2 hi2 hB2 (by decide);rw[dt] at h_2;try rw[←hg] at h_2
   try rw[←ht] at h_2
   try dsimp only at h_2
   rw[hb3];cbv;iterate 2 try(rw[hb3];cbv)
   refine AStep.mk (dR hg hi2 hl2) ?_;cbv;try(rw[hb3];cbv)
   obtain⟨x2,hx2,h_2⟩:=aE h_2;try dsimp only at h_2
   refine AGet.mk _ (g9 hg ht hx2) ?_;cbv;iterate 3 try(rw[hb3];cbv)
   cases hb4:(slt x2 x1_To)
   ·rw[aa hb4] at h_2;cbv;refine⟨v2,Wk.of [(0,some 0),(1,some 1)] rfl rfl ?_ ?_,(Option.some.inj h_2).symm⟩
    ·cbv;all_goals exact⟨⟨_,rfl,rfl⟩,⟨_,rfl,rfl⟩,⟨_,rfl,rfl⟩,⟨_,rfl,rfl⟩,⟨_,rfl,rfl⟩,trivial⟩
    cbv;all_goals exact⟨⟨_,rfl,_,rfl,rfl,rfl,rfl,trivial⟩,⟨_,rfl,rfl⟩,trivial⟩
   rw[ab hb4] at h_2;cbv;try rw[hg] at h_2
   try rw[ht] at h_2
   refine⟨⟨(n2,(wrap .i64 (add v2 1))),hs2.1,hs2.2,h_2⟩,Wk.of [(0,some 0),(1,some 1)] rfl rfl ?_ ?_,Nat.lt_succ_self _⟩
   ·cbv;all_goals exact⟨⟨_,rfl,rfl⟩,⟨_,rfl,rfl⟩,⟨_,rfl,rfl⟩,⟨_,rfl,rfl⟩,⟨_,rfl,rfl⟩,trivial⟩
   cbv;all_goals exact⟨⟨_,rfl,_,rfl,rfl,rfl,rfl,trivial⟩,⟨_,rfl,rfl⟩,trivial⟩
  rintro y1 hy2;replace hy2:=hy2.symm;subst hy2;try dsimp only[lr,lrL,lrp,aR] at h_1
  cbv
  cases hb5:(eq y1 (int (dlen (d_S w1))))
  rotate_left
  ·rw[ab hb5] at h_1;cbv;iterate 6 try(rw[hb5];cbv)
   obtain⟨l2,hl2,h_1⟩:=ak h_1;try dsimp only at h_1
   refine ANew.mk (d_S l2) (dlen (d_S l2)) (by rw[←hl2];exact jG hg ht []) (by rw[←hl2];exact gD hg ht []) ?_;cbv;obtain⟨hc3,h_1⟩:=al h_1;refine AStep.mk hc3 ?_;cbv;obtain⟨hc8,h_1⟩:=al h_1;obtain⟨hc9,h_1⟩:=al h_1;refine AStep.mk ⟨(i5 hg ht hc8),(dF hg ht (aq hg ht _) (ec hg ht _ _ _) hc9)⟩ ?_;cbv;obtain⟨l3,hl3,h_1⟩:=ak h_1;try dsimp only at h_1
   refine ANew.mk (d_S l3) (dlen (d_S l3)) (by rw[←hl3];exact kr hg ht (aq hg ht _) (ec hg ht _ _ _)) (by rw[←hl3];exact gY hg ht (aq hg ht _) (ec hg ht _ _ _)) ?_;cbv;obtain⟨l4,hl4,h_1⟩:=ak h_1;try dsimp only at h_1
   refine ANew.mk (d_S l4) (dlen (d_S l4)) (by rw[←hl4];exact jG hg ht [x1_To]) (by rw[←hl4];exact gD hg ht [x1_To]) ?_;cbv;obtain⟨hc7,h_1⟩:=al h_1;refine AStep.mk ⟨⟨rfl,(aq hg ht _)⟩,(dF hg ht (aq hg ht _) rfl hc7)⟩ ?_;cbv;obtain⟨l5,hl5,h_1⟩:=ak h_1;try dsimp only at h_1
   refine ANew.mk (d_S l5) (dlen (d_S l5)) (by rw[←hl5];exact kr hg ht (aq hg ht _) rfl) (by rw[←hl5];exact gY hg ht (aq hg ht _) rfl) ?_;cbv;obtain⟨hc4,h_1⟩:=al h_1;refine AStep.mk hc4 ?_;cbv;obtain⟨hc5,h_1⟩:=al h_1;obtain⟨hc6,h_1⟩:=al h_1;refine AStep.mk ⟨(i5 hg ht hc5),(dF hg ht (aq hg ht _) (ec hg ht _ _ _) hc6)⟩ ?_;cbv;obtain⟨l6,hl6,h_1⟩:=ak h_1;try dsimp only at h_1
   refine ANew.mk (d_S l6) (dlen (d_S l6)) (by rw[←hl6];exact kr hg ht (aq hg ht _) (ec hg ht _ _ _)) (by rw[←hl6];exact gY hg ht (aq hg ht _) (ec hg ht _ _ _)) ?_;cbv;try rw[hg] at h_1
   try rw[ht] at h_1
   refine⟨⟨(n1,(wrap .i64 (add v1 1)),l6),hs1.1,hs1.2,h_1⟩,Wk.of [(0,some 0),(1,some 370)] rfl rfl ?_ ?_,Nat.lt_succ_self _⟩
   ·cbv;all_goals exact⟨⟨_,rfl,rfl⟩,⟨_,rfl,rfl⟩,⟨_,rfl,rfl⟩,trivial⟩
   cbv;all_goals exact⟨⟨_,rfl,_,rfl,rfl,rfl,rfl,trivial⟩,⟨_,rfl,rfl⟩,trivial⟩
  rw[aa hb5] at h_1;cbv;iterate 2 try(rw[hb5];cbv)
  obtain⟨hc10,h_1⟩:=al h_1;refine AStep.mk hc10 ?_;cbv;try(rw[hb5];cbv)
  obtain⟨x3,hx3,h_1⟩:=aE h_1;try dsimp only at h_1
  refine AGet.mk _ (g9 hg ht hx3) ?_;cbv;iterate 3 try(rw[hb5];cbv)
  cases hb6:(seq x3 x1_To)
  rotate_left
  ·rw[ab hb6] at h_1;cbv;try rw[hg] at h_1
   try rw[ht] at h_1
   refine⟨⟨(n1,(wrap .i64 (add v1 1)),w1),hs1.1,hs1.2,h_1⟩,Wk.of [(0,some 0),(1,some 1)] rfl rfl ?_ ?_,Nat.lt_succ_self _⟩
   ·cbv;all_goals exact⟨⟨_,rfl,rfl⟩,⟨_,rfl,rfl⟩,⟨_,rfl,rfl⟩,trivial⟩
   cbv;all_goals exact⟨⟨_,rfl,_,rfl,rfl,rfl,rfl,trivial⟩,⟨_,rfl,rfl⟩,trivial⟩
  rw[aa hb6] at h_1;cbv;obtain⟨l7,hl7,h_1⟩:=ak h_1;try dsimp only at h_1
  refine ANew.mk (d_S l7) (dlen (d_S l7)) (by rw[←hl7];exact jG hg ht []) (by rw[←hl7];exact gD hg ht []) ?_;cbv;obtain⟨hc11,h_1⟩:=al h_1;refine AStep.mk hc11 ?_;cbv;obtain⟨hc16,h_1⟩:=al h_1;obtain⟨hc17,h_1⟩:=al h_1;refine AStep.mk ⟨(i5 hg ht hc16),(dF hg ht (aq hg ht _) (ec hg ht _ _ _) hc17)⟩ ?_;cbv;obtain⟨l8,hl8,h_1⟩:=ak h_1;try dsimp only at h_1
  refine ANew.mk (d_S l8) (dlen (d_S l8)) (by rw[←hl8];exact kr hg ht (aq hg ht _) (ec hg ht _ _ _)) (by rw[←hl8];exact gY hg ht (aq hg ht _) (ec hg ht _ _ _)) ?_;cbv;obtain⟨l9,hl9,h_1⟩:=ak h_1;try dsimp only at h_1
  refine ANew.mk (d_S l9) (dlen (d_S l9)) (by rw[←hl9];exact jG hg ht [x1_To]) (by rw[←hl9];exact gD hg ht [x1_To]) ?_;cbv;obtain⟨hc15,h_1⟩:=al h_1;refine AStep.mk ⟨⟨rfl,(aq hg ht _)⟩,(dF hg ht (aq hg ht _) rfl hc15)⟩ ?_;cbv;obtain⟨l10,hl10,h_1⟩:=ak h_1;try dsimp only at h_1
  refine ANew.mk (d_S l10) (dlen (d_S l10)) (by rw[←hl10];exact kr hg ht (aq hg ht _) rfl) (by rw[←hl10];exact gY hg ht (aq hg ht _) rfl) ?_;cbv;obtain⟨hc12,h_1⟩:=al h_1;refine AStep.mk hc12 ?_;cbv;obtain⟨hc13,h_1⟩:=al h_1;obtain⟨hc14,h_1⟩:=al h_1;refine AStep.mk ⟨(i5 hg ht hc13),(dF hg ht (aq hg ht _) (ec hg ht _ _ _) hc14)⟩ ?_;cbv;obtain⟨l11,hl11,h_1⟩:=ak h_1;try dsimp only at h_1
  refine ANew.mk (d_S l11) (dlen (d_S l11)) (by rw[←hl11];exact kr hg ht (aq hg ht _) (ec hg ht _ _ _)) (by rw[←hl11];exact gY hg ht (aq hg ht _) (ec hg ht _ _ _)) ?_;cbv;try rw[hg] at h_1
  try rw[ht] at h_1
  refine⟨⟨(n1,(wrap .i64 (add v1 1)),l11),hs1.1,hs1.2,h_1⟩,Wk.of [(0,some 0),(1,some 370)] rfl rfl ?_ ?_,Nat.lt_succ_self _⟩
  ·cbv;all_goals exact⟨⟨_,rfl,rfl⟩,⟨_,rfl,rfl⟩,⟨_,rfl,rfl⟩,trivial⟩
  cbv;all_goals exact⟨⟨_,rfl,_,rfl,rfl,rfl,rfl,trivial⟩,⟨_,rfl,rfl⟩,trivial⟩
 rintro y3 hy1;replace hy1:=hy1.symm;subst hy1;try dsimp only[lr,lrL,lrp,aR] at h
 cbv;obtain rfl:=Option.some.inj h;exact ARet.mk ⟨rfl,(aq hg ht _)⟩ hX.symm
def ir85:J:=js [jq 2 (.box 0),jq 3 (.box 1),jm 4 (ki 0)] [2,3] (.seq (.reg (some [[],[0],[0,1],[],[3],[],[5],[3,4,5,6],[3,4,5,6,7],[3,4,5,6,7,8],[0,1,2,3,4,5,6,7,8,9],[0,1,2,3,4,5,6,7,8,9,10]]) [jf 5 1 3,jk 6 5,jb 7 .mul .i 6 (ki 1440),jf 8 0 2,jk 9 8,jf 10 0 3,jk 11 10,ja 12 6 9 11,jf 13 2 12,jk 14 13,jb 15 .add .i 7 14,jm 4 15] [4]) .ret)
def rv85:List RV:=[.t 4]
def bg (g:G) (t:TE) (a0:Network) (a1:Trip):Option Int:=
 gd (((0:Int)≤a1.Leg))<|
 gt a0.Legs (g.nat a1.Leg) fun x1=>
 some (g.wrap .i64 (g.add (g.wrap .i64 (g.mul a1.Day 1440)) x1.Start))
theorem bq {g:G} {t:TE} {a0:Network} {a1:Trip} {r:Int} (hg:g=G.real) (ht:t=TE.real) (h:bg g t a0 a1=some r):Fn Tryz.prog 85 [.g (Network.rs t a0),.g (Trip.rs t a1)] (.c (.r (.v (.int .i64 r)))):=by
 obtain⟨X,hX⟩:=aH (.c (.r (.v (.int .i64 r))):X);rw[←hX];refine aw (rvs:=rv85) (j:=ir85) Tryz.func85 rfl (by kernel_rfl) (nb rfl) (by kernel_rfl) af ?_;intro g2 F hg2 hF;obtain rfl:g2=g:=hg2.unique.trans hg.symm;clear hg2;obtain⟨_⟩:=g2;obtain⟨_⟩:=t
 obtain⟨a0_Legs,a0_Off,a0_Change⟩:=a0;obtain⟨a1_Leg,a1_Day⟩:=a1;unfold bg at h;try dsimp only at h
 cbv;obtain⟨hc1,h⟩:=al h;refine AStep.mk hc1 ?_;cbv;obtain⟨x1,hx1,h⟩:=aE h;obtain⟨x1_From,x1_To,x1_Start,x1_Takes,x1_Days,x1_Room⟩:=x1;try dsimp only at h
 refine AGet.mk _ (aF hg ht hx1) ?_;cbv;obtain rfl:=Option.some.inj h;exact ARet.mk trivial hX.symm
def ir86:J:=js [jq 2 (.box 0),jq 3 (.box 1),jm 4 (ki 0)] [2,3] (.seq (.reg (some [[],[],[0,1],[],[3],[],[5],[3,4,5,6],[3,4,5,6,7],[3,4,5,6,7,8],[0,1,2,3,4,5,6,7,8,9],[0,1,2,3,4,5,6,7,8,9,10]]) [jl 5 3 2,jl 6 2 3,jc 7 85 [5,6],jf 8 0 2,jk 9 8,jf 10 0 3,jk 11 10,ja 12 6 9 11,jf 13 3 12,jk 14 13,jb 15 .add .i 7 14,jm 4 15] [4]) .ret)
def rv86:List RV:=[.t 4]
def bP (g:G) (t:TE) (a0:Network) (a1:Trip):Option Int:=
 cl (bg g t a0 a1) fun x1=>
 gd (((0:Int)≤a1.Leg))<|
 gt a0.Legs (g.nat a1.Leg) fun x2=>
 some (g.wrap .i64 (g.add x1 x2.Takes))
theorem bR {g:G} {t:TE} {a0:Network} {a1:Trip} {r:Int} (hg:g=G.real) (ht:t=TE.real) (h:bP g t a0 a1=some r):Fn Tryz.prog 86 [.g (Network.rs t a0),.g (Trip.rs t a1)] (.c (.r (.v (.int .i64 r)))):=by
 obtain⟨X,hX⟩:=aH (.c (.r (.v (.int .i64 r))):X);rw[←hX];refine aw (rvs:=rv86) (j:=ir86) Tryz.func86 rfl (by kernel_rfl) (nb rfl) (by kernel_rfl) af ?_;intro g2 F hg2 hF;obtain rfl:g2=g:=hg2.unique.trans hg.symm;clear hg2;obtain⟨_⟩:=g2;obtain⟨_⟩:=t
 obtain⟨a0_Legs,a0_Off,a0_Change⟩:=a0;obtain⟨a1_Leg,a1_Day⟩:=a1;unfold bP at h;try dsimp only at h
 cbv;obtain⟨x1,hx1,h⟩:=ac h;try dsimp only at h
 refine ACall.mk _ _ rfl (hF _ _ _ (bq hg ht hx1)) (.inl rfl) (nb rfl) ?_;cbv;obtain⟨hc1,h⟩:=al h;refine AStep.mk hc1 ?_;cbv;obtain⟨x2,hx2,h⟩:=aE h;obtain⟨x2_From,x2_To,x2_Start,x2_Takes,x2_Days,x2_Room⟩:=x2;try dsimp only at h
 refine AGet.mk _ (aF hg ht hx2) ?_;cbv;obtain rfl:=Option.some.inj h;exact ARet.mk trivial hX.symm
def H5:J:=js [jm 6 kf] [0,1,2] (js [jm 7 0,jm 8 1,jb 9 .geq .i 7 8,jm 10 9,ju 11 10 (.mv 0),ju 12 10 (.mv 2),ju 13 10 (.bin .leq .i 11 12),jq 14 (.pick 10 13 kf),jm 6 14] [6] .ret)
def IS:List RV:=[.t 6]
def iQ (g:G) (t:TE) (a0:Int) (a1:Int) (a2:Int):Bool:=
 br (g.le a1 a0)
 (
  (g.le a0 a2))
 (
  false)
theorem gP {g:G} {t:TE} {a0:Int} {a1:Int} {a2:Int} {r:Bool} (hg:g=G.real) (ht:t=TE.real) (h:iQ g t a0 a1 a2=r):Fn Tryz.prog 102 [.c (.v (.int .i64 a0)),.c (.v (.int .i64 a1)),.c (.v (.int .i64 a2))] (.c (.r (.v (.bool r)))):=by
 obtain⟨X,hX⟩:=aH (.c (.r (.v (.bool r))):X);rw[←hX];refine aw (rvs:=IS) (j:=H5) Tryz.func102 rfl (by kernel_rfl) (nb rfl) (by kernel_rfl) af ?_;intro g2 F hg2 hF;obtain rfl:g2=g:=hg2.unique.trans hg.symm;clear hg2;obtain⟨_,_,le⟩:=g2;obtain⟨_⟩:=t
 unfold iQ at h;try dsimp only at h
 cbv
 cases hb1:(le a1 a0)
 rotate_left
 ·rw[ab hb1] at h;cbv;iterate 3 try(rw[hb1];cbv)
  subst h;exact ARet.mk trivial hX.symm
 rw[aa hb1] at h;cbv;iterate 3 try(rw[hb1];cbv)
 subst h;exact ARet.mk trivial hX.symm
def Jy:J:=js [jm 2 kf] [0] (.seq (js [jm 4 0,jq 5 (.len true 4),jb 6 .neq .i 5 (ki 3)] [0,6] (.cond 6 (js [jm 2 kf] [2] .ret) .skip)) (.seq (js [jm 3 (ki 0)] [0,3] (.bl 0 (.seq (js [jm 7 3,jb 8 .lss .i 7 (ki 3)] [0,3,8] (.cond 8 .skip (.exit 0))) (.seq (.block 1 (js [jm 11 0,jm 12 3,jq 13 (.idx 11 12),jq 14 (.cvt .i64 13),jc 15 102 [14,(ki 65),(ki 90)],jq 16 (.not 15)] [0,3,16] (.cond 16 (js [jm 2 kf] [2] .ret) .skip))) (.reg none [jm 9 3,jb 10 .add .i 9 (ki 1),jm 3 10] [0,3]))))) (js [jm 2 kt] [2] .ret)))
def Ix:List RV:=[.t 2]
def fh (g:G) (t:TE) (a0:ByteArray):Nat→Int→Option (LR Bool Unit)
 |0,v1=>
  some (LR.out ())
 |n1+1,v1=>
  gd (((0:Int)≤v1∧v1<(((a0.size):Nat):Int)))<|
  lP (iQ g t (g.wrap .i64 (g.byte a0 v1)) 65 90) fun x1=>
  br x1
  (
   fh g t a0 n1 (g.wrap .i64 (g.add v1 1)))
  (
   some (LR.ret false))
def lh (g:G) (t:TE) (a0:ByteArray):Option Bool:=
 br (g.eq (g.int (g.slen a0)) 3)
 (
  cl (fh g t a0 (ay 0 3) 0) fun o1=>lr o1 fun y1=>
  some true)
 (
  some false)
theorem sw {g:G} {t:TE} {a0:ByteArray} {r:Bool} (hg:g=G.real) (ht:t=TE.real) (h:lh g t a0=some r):Fn Tryz.prog 145 [.c (.v (.string a0))] (.c (.r (.v (.bool r)))):=by
 obtain⟨X,hX⟩:=aH (.c (.r (.v (.bool r))):X);rw[←hX];refine aw (rvs:=Ix) (j:=Jy) Tryz.func145 rfl (by kernel_rfl) (nb rfl) (by kernel_rfl) af ?_;intro g2 F hg2 hF;obtain rfl:g2=g:=hg2.unique.trans hg.symm;clear hg2;obtain⟨wrap,lt,_,eq,_,_,_,_,_,_,_,_,int,add,_,_,_,_,_,_,_,_,_,_,_,_,_,_,_,_,_,_,_,_,_,slen⟩:=g2;obtain⟨_⟩:=t
 unfold lh at h;try dsimp only at h
 cbv
 cases hb1:(eq (int (slen a0)) 3)
 ·rw[aa hb1] at h;cbv;obtain rfl:=Option.some.inj h;exact ARet.mk trivial hX.symm
 rw[ab hb1] at h;cbv;obtain⟨o1,ho1,h⟩:=ac h;try dsimp only at h
 try rw[hg] at ho1
 try rw[ht] at ho1
 refine ABL.mk {p:Nat×Int//p.1=ay p.2 3∧0≤p.2∧fh G.real TE.real a0 p.1 p.2=some o1} (fun⟨⟨n1,v1⟩,_⟩=>({sl:=[(0,.c (.r (.v (.string a0)))),(3,.c (.r (.v (.int .i64 v1))))],tab:=[]}:St)) 0 (fun p=>p.1.1) ⟨(ay 0 3,0),rfl,Int.le_refl _,ho1⟩ (Unit) (fun _=>({sl:=[],tab:=[]}:St)) 0 (fun y=>o1=LR.out y) ?_ ?_ ?_
 ·refine Wk.of [] rfl rfl ?_ ?_
  ·cbv;all_goals exact⟨⟨_,rfl,rfl⟩,⟨_,rfl,rfl⟩,trivial⟩
  cbv;all_goals exact trivial
 ·rintro⟨⟨n1,v1⟩,hn1,hi1,h_1⟩ hq1;try dsimp only at hn1 hi1 h_1
  clear hq1;cbv;rcases n1 with _|n1
  ·have hb2:lt v1 3=false:=bu hg hn1;rw[fh] at h_1;try rw[←hg] at h_1
   try rw[←ht] at h_1
   try dsimp only at h_1
   rw[hb2];cbv;refine⟨(),Wk.of [] rfl rfl ?_ ?_,(Option.some.inj h_1).symm⟩
   ·cbv;all_goals exact trivial
   cbv;all_goals exact trivial
  have hb2:lt v1 3=true:=bF hg hn1;have hl1:=d8 hn1;have hs1:=cM hg hn1 hi1 (by decide) (by decide);rw[fh] at h_1;try rw[←hg] at h_1
  try rw[←ht] at h_1
  try dsimp only at h_1
  rw[hb2];cbv;obtain⟨hc1,h_1⟩:=al h_1;refine AStep.mk hc1 ?_;cbv;obtain⟨x1,hx1,h_1⟩:=ak h_1;try dsimp only at h_1
  refine ACall.mk _ _ rfl (hF _ _ _ (gP hg ht hx1)) (.inl rfl) (nb rfl) ?_;cbv
  cases hb3:x1
  ·rw[aa hb3] at h_1;cbv;obtain rfl:=Option.some.inj h_1;try dsimp only[lr,lrL,lrp,aR] at h
   obtain rfl:=Option.some.inj h;exact ARet.mk trivial hX.symm
  rw[ab hb3] at h_1;cbv;try rw[hg] at h_1
  try rw[ht] at h_1
  refine⟨⟨(n1,(wrap .i64 (add v1 1))),hs1.1,hs1.2,h_1⟩,Wk.of [] rfl rfl ?_ ?_,Nat.lt_succ_self _⟩
  ·cbv;all_goals exact⟨⟨_,rfl,rfl⟩,⟨_,rfl,rfl⟩,trivial⟩
  cbv;all_goals exact trivial
 rintro _ hy1;replace hy1:=hy1.symm;subst hy1;try dsimp only[lr,lrL,lrp,aR] at h
 cbv;obtain rfl:=Option.some.inj h;exact ARet.mk trivial hX.symm
def In:J:=js [jq 1 (.box 0),jm 2 kf] [1] (js [jf 3 0 1,jk 4 3,jc 5 145 [4],jm 6 5,ju 7 6 (.fa 1 1),ju 8 6 (.ld false 1 7),ju 9 6 (.call 145 true [8]),jq 10 (.pick 6 9 kf),jm 11 10,ju 12 11 (.fa 0 1),ju 13 11 (.ld false 1 12),ju 14 11 (.fa 1 1),ju 15 11 (.ld false 1 14),ju 16 11 (.bin .neq .s 13 15),jq 17 (.pick 11 16 kf),jm 18 17,ju 19 18 (.fa 2 1),ju 20 18 (.ld false 1 19),ju 21 18 (.call 102 true [20,(ki 0),(ki 1439)]),jq 22 (.pick 18 21 kf),jm 23 22,ju 24 23 (.fa 3 1),ju 25 23 (.ld false 1 24),ju 26 23 (.call 102 true [25,(ki 1),(ki 4320)]),jq 27 (.pick 23 26 kf),jm 28 27,ju 29 28 (.fa 4 1),ju 30 28 (.ld false 1 29),ju 31 28 (.call 102 true [30,(ki 1),(ki 127)]),jq 32 (.pick 28 31 kf),jm 33 32,ju 34 33 (.fa 5 1),ju 35 33 (.ld false 1 34),ju 36 33 (.call 102 true [35,(ki 0),(ki 1000000)]),jq 37 (.pick 33 36 kf),jm 2 37] [2] .ret)
def IZ:List RV:=[.t 2]
def qv (g:G) (t:TE) (a0:Leg):Option Bool:=
 cl (lh g t a0.From) fun x1=>
 br x1
 (
  cl (lh g t a0.To) fun x2=>
  br x2
  (
   br (g.seq a0.From a0.To)
   (
    some false)
   (
    lP (iQ g t a0.Start 0 1439) fun x3=>
    br x3
    (
     lP (iQ g t a0.Takes 1 4320) fun x4=>
     br x4
     (
      lP (iQ g t a0.Days 1 127) fun x5=>
      br x5
      (
       lP (iQ g t a0.Room 0 1000000) fun x6=>
       some x6)
      (
       some false))
     (
      some false))
    (
     some false)))
  (
   some false))
 (
  some false)
theorem CA {g:G} {t:TE} {a0:Leg} {r:Bool} (hg:g=G.real) (ht:t=TE.real) (h:qv g t a0=some r):Fn Tryz.prog 127 [.g (Leg.rs t a0)] (.c (.r (.v (.bool r)))):=by
 obtain⟨X,hX⟩:=aH (.c (.r (.v (.bool r))):X);rw[←hX];refine aw (rvs:=IZ) (j:=In) Tryz.func127 rfl (by kernel_rfl) (nb rfl) (by kernel_rfl) af ?_;intro g2 F hg2 hF;obtain rfl:g2=g:=hg2.unique.trans hg.symm;clear hg2;obtain⟨_,_,_,_,_,_,_,_,_,_,_,_,_,_,_,_,_,seq⟩:=g2;obtain⟨_⟩:=t
 obtain⟨a0_From,a0_To,a0_Start,a0_Takes,a0_Days,a0_Room⟩:=a0;unfold qv at h;try dsimp only at h
 cbv;obtain⟨x1,hx1,h⟩:=ac h;try dsimp only at h
 refine ACall.mk _ _ rfl (hF _ _ _ (sw hg ht hx1)) (.inl rfl) (nb rfl) ?_;cbv
 cases hb1:x1
 ·rw[aa hb1] at h;cbv;iterate 3 try(rw[hb1];cbv)
  obtain rfl:=Option.some.inj h;exact ARet.mk trivial hX.symm
 rw[ab hb1] at h;cbv;iterate 2 try(rw[hb1];cbv)
 obtain⟨x2,hx2,h⟩:=ac h;try dsimp only at h
 refine ACall.mk _ _ rfl (hF _ _ _ (sw hg ht hx2)) (.inl rfl) (nb rfl) ?_;cbv;try(rw[hb1];cbv)
 cases hb2:x2
 ·rw[aa hb2] at h;cbv;iterate 5 try(rw[hb2];cbv)
  obtain rfl:=Option.some.inj h;exact ARet.mk trivial hX.symm
 rw[ab hb2] at h;cbv;iterate 5 try(rw[hb2];cbv)
 cases hb3:(seq a0_From a0_To)
 rotate_left
 ·rw[ab hb3] at h;cbv;iterate 3 try(rw[hb3];cbv)
  obtain rfl:=Option.some.inj h;exact ARet.mk trivial hX.symm
 rw[aa hb3] at h;cbv;iterate 2 try(rw[hb3];cbv)
 obtain⟨x3,hx3,h⟩:=ak h;try dsimp only at h
 refine ACall.mk _ _ rfl (hF _ _ _ (gP hg ht hx3)) (.inl rfl) (nb rfl) ?_;cbv;try(rw[hb3];cbv)
 cases hb4:x3
 ·rw[aa hb4] at h;cbv;iterate 3 try(rw[hb4];cbv)
  obtain rfl:=Option.some.inj h;exact ARet.mk trivial hX.symm
 rw[ab hb4] at h;cbv;iterate 2 try(rw[hb4];cbv)
 obtain⟨x4,hx4,h⟩:=ak h;try dsimp only at h
 refine ACall.mk _ _ rfl (hF _ _ _ (gP hg ht hx4)) (.inl rfl) (nb rfl) ?_;cbv;try(rw[hb4];cbv)
 cases hb5:x4
 ·rw[aa hb5] at h;cbv;iterate 3 try(rw[hb5];cbv)
  obtain rfl:=Option.some.inj h;exact ARet.mk trivial hX.symm
 rw[ab hb5] at h;cbv;iterate 2 try(rw[hb5];cbv)
 obtain⟨x5,hx5,h⟩:=ak h;try dsimp only at h
 refine ACall.mk _ _ rfl (hF _ _ _ (gP hg ht hx5)) (.inl rfl) (nb rfl) ?_;cbv;try(rw[hb5];cbv)
 cases hb6:x5
 ·rw[aa hb6] at h;cbv;iterate 3 try(rw[hb6];cbv)
  obtain rfl:=Option.some.inj h;exact ARet.mk trivial hX.symm
 rw[ab hb6] at h;cbv;iterate 2 try(rw[hb6];cbv)
 obtain⟨x6,hx6,h⟩:=ak h;try dsimp only at h
 refine ACall.mk _ _ rfl (hF _ _ _ (gP hg ht hx6)) (.inl rfl) (nb rfl) ?_;cbv;try(rw[hb6];cbv)
 obtain rfl:=Option.some.inj h;exact ARet.mk trivial hX.symm
def ID:J:=js [jq 1 (.box 0),jm 2 kf] [1] (.seq (js [jm 3 (ki 0)] [1,3] (.bl 0 (.seq (js [jm 5 3,jf 6 0 1,jk 7 6,jq 8 (.len false 7),jb 9 .lss .i 5 8] [1,3,9] (.cond 9 .skip (.exit 0))) (.seq (.block 1 (js [jf 12 0 1,jk 13 12,jm 14 3,ja 15 6 13 14,jl 16 6 15,jc 17 127 [16],jq 18 (.not 17)] [1,3,18] (.cond 18 (js [jm 2 kf] [2] .ret) .skip))) (.reg none [jm 10 3,jb 11 .add .i 10 (ki 1),jm 3 11] [1,3]))))) (.seq (js [jm 4 (ki 0)] [1,4] (.bl 2 (.seq (js [jm 19 4,jf 20 1 1,jk 21 20,jq 22 (.len false 21),jb 23 .lss .i 19 22] [1,4,23] (.cond 23 .skip (.exit 2))) (.seq (.block 3 (.seq (.reg (some [[],[0],[],[0,1,2],[0,1,2,3],[0,1,2,3,4],[0,1,2,3,4,5],[0,1,2,3,4,5,6],[0,1,2,3,4,5,6,7],[0,1,2,3,4,5,6,7,8],[0,1,2,3,4,5,6,7,8,9],[0,1,2,3,4,5,6,7,8,9,10],[0,1,2,3,4,5,6,7,8,9,10,11],[0,1,2,3,4,5,6,7,8,9,10],[0,1,2,3,4,5,6,7,8,9,10,13],[0,1,2,3,4,5,6,7,8,9,10,11,12,13,14],[0,1,2,3,4,5,6,7,8,9,10,11,12,13,14,15],[0,1,2,3,4,5,6,7,8,9,10],[0,1,2,3,4,5,6,7,8,9,10,17],[0,1,2,3,4,5,6,7,8,9,10],[0,1,2,3,4,5,6,7,8,9,10,17,18,19],[0,1,2,3,4,5,6,7,8,9,10,17,18,19,20],[0,1,2,3,4,5,6,7,8,9,10,11,12,13,14,15,16,17,18,19,20,21],[0,1,2,3,4,5,6,7,8,9,10,11,12,13,14,15,16,17,18,19,20,21,22],[0,1,2,3,4,5,6,7,8,9,10,11,12,13,14,15,16,17,18,19,20,21,22,23]]) [jf 26 1 1,jk 27 26,jm 28 4,ja 29 1 27 28,jk 30 29,jc 31 102 [30,(ki 0),(ki 60)],jq 32 (.not 31),jm 33 32,jv 34 33 (.mv 4),jv 35 33 (.bin .gtr .i 34 (ki 0)),jv 36 33 (.mv 35),ju 37 36 (.fa 1 1),ju 38 36 (.ld false 1 37),ju 39 36 (.mv 4),ju 40 36 (.bin .sub .i 39 (ki 1)),ju 41 36 (.ia 1 38 40),ju 42 36 (.ld false 1 41),ju 43 36 (.fa 1 1),ju 44 36 (.ld false 1 43),ju 45 36 (.mv 4),ju 46 36 (.ia 1 44 45),ju 47 36 (.ld false 1 46),ju 48 36 (.bin .geq .i 42 47),jv 49 33 (.pick 36 48 kf),jq 50 (.pick 33 kt 49)] [1,4,50]) (.cond 50 (js [jm 2 kf] [2] .ret) .skip))) (.reg none [jm 24 4,jb 25 .add .i 24 (ki 1),jm 4 25] [1,4]))))) (js [jf 51 0 1,jk 52 51,jq 53 (.len false 52),jb 54 .leq .i 53 (ki 20),jm 55 54,ju 56 55 (.fa 1 1),ju 57 55 (.ld false 1 56),ju 58 55 (.len false 57),ju 59 55 (.bin .leq .i 58 (ki 10)),jq 60 (.pick 55 59 kf),jm 61 60,ju 62 61 (.fa 2 1),ju 63 61 (.ld false 1 62),ju 64 61 (.call 102 true [63,(ki 0),(ki 240)]),jq 65 (.pick 61 64 kf),jm 2 65] [2] .ret)))
def I5:List RV:=[.t 2]
def cV (g:G) (t:TE) (a0:Network):List Int→Int→Option (LR Bool Unit)
 |[],v2=>
  some (LR.out ())
 |z2::ls2,v2=>
  lP (iQ g t z2 0 60) fun x2=>
  br x2
  (
   br (g.lt 0 v2)
   (
    gd (((0:Int)≤(g.wrap .i64 (g.sub v2 1))))<|
    gt a0.Off (g.nat (g.wrap .i64 (g.sub v2 1))) fun x3=>
    br (g.le z2 x3)
    (
     some (LR.ret false))
    (
     cV g t a0 ls2 (g.wrap .i64 (g.add v2 1))))
   (
    cV g t a0 ls2 (g.wrap .i64 (g.add v2 1))))
  (
   some (LR.ret false))
def dL (g:G) (t:TE):List Leg→Option (LR Bool Unit)
 |[]=>
  some (LR.out ())
 |z1::ls1=>
  cl (qv g t z1) fun x1=>
  br x1
  (
   dL g t ls1)
  (
   some (LR.ret false))
def fm (g:G) (t:TE) (a0:Network):Option Bool:=
 cl (dL g t a0.Legs) fun o1=>lr o1 fun y1=>
 cl (cV g t a0 a0.Off 0) fun o2=>lr o2 fun y2=>
 br (g.le (g.llen (t.r_Leg a0.Legs)) 20)
 (
  br (g.le (g.llen (t.r_I64 a0.Off)) 10)
  (
   lP (iQ g t a0.Change 0 240) fun x4=>
   some x4)
  (
   some false))
 (
  some false)
theorem mg {g:G} {t:TE} {a0:Network} {r:Bool} (hg:g=G.real) (ht:t=TE.real) (h:fm g t a0=some r):Fn Tryz.prog 101 [.g (Network.rs t a0)] (.c (.r (.v (.bool r)))):=by
 obtain⟨X,hX⟩:=aH (.c (.r (.v (.bool r))):X);rw[←hX];refine aw (rvs:=I5) (j:=ID) Tryz.func101 rfl (by kernel_rfl) (nb rfl) (by kernel_rfl) af ?_;intro g2 F hg2 hF;obtain rfl:g2=g:=hg2.unique.trans hg.symm;clear hg2;obtain⟨wrap,lt,le,_,_,_,_,_,_,_,_,_,_,add,_,_,_,_,_,_,_,llen⟩:=g2;obtain⟨r_Leg,_,r_I64⟩:=t
 obtain⟨a0_Legs,a0_Off,a0_Change⟩:=a0;unfold fm at h;try dsimp only at h
 cbv;obtain⟨o1,ho1,h⟩:=ac h;try dsimp only at h
 try rw[hg] at ho1
 try rw[ht] at ho1
 refine ABL.mk {p:Nat×Int//p.1≤a0_Legs.length∧p.2=((p.1:Nat):Int)∧dL G.real TE.real (List.drop p.1 a0_Legs)=some o1} (fun⟨⟨k1,v1⟩,_⟩=>({sl:=[(1,.c (.p 0 3 0 0)),(3,.c (.r (.v (.int .i64 v1))))],tab:=[(0,some (.foc 3 [] [.r (.s 6 (r_Leg a0_Legs)),.r (.s 1 (r_I64 a0_Off)),.r (.v (.int .i64 a0_Change))] []))]}:St)) 1 (fun p=>a0_Legs.length-p.1.1) ⟨(0,0),Nat.zero_le _,rfl,ho1⟩ (Unit) (fun _=>({sl:=[(1,.c (.p 0 3 0 0))],tab:=[(0,some (.foc 3 [] [.r (.s 6 (r_Leg a0_Legs)),.r (.s 1 (r_I64 a0_Off)),.r (.v (.int .i64 a0_Change))] []))]}:St)) 1 (fun y=>o1=LR.out y) ?_ ?_ ?_
 ·refine Wk.of [(0,some 0)] rfl rfl ?_ ?_
  ·cbv;all_goals exact⟨⟨_,rfl,rfl⟩,⟨_,rfl,rfl⟩,trivial⟩
  cbv;all_goals exact⟨⟨_,rfl,_,rfl,rfl,rfl,rfl,trivial⟩,trivial⟩
 ·rintro⟨⟨k1,v1⟩,hk1,hi1,h_1⟩ hq1;have hm1:=(hq1.2.2.1 0 _ _ _ _ 0 _ _ rfl rfl);try dsimp only at hk1 hi1 h_1
  clear hq1;cbv
  by_cases hc1_:k1<a0_Legs.length
  ·have hb1:lt v1 (llen (r_Leg a0_Legs))=true:=dw hg ht hi1 hc1_;have hs1:=gw hg ht hi1 hc1_ hm1;obtain⟨z1,hz1⟩:=aL hc1_;rw[aD hz1] at h_1;rw[dL] at h_1;obtain⟨z1_From,z1_To,z1_Start,z1_Takes,z1_Days,z1_Room⟩:=z1;try rw[←hg] at h_1
   try rw[←ht] at h_1
   try dsimp only at h_1
   rw[hb1];cbv;refine AStep.mk (eO hi1) ?_;cbv;refine AGet.mk _ (fS hg ht hi1 hz1) ?_;cbv;obtain⟨x1,hx1,h_1⟩:=ac h_1;try dsimp only at h_1
   refine ACall.mk _ _ rfl (hF _ _ _ (CA hg ht hx1)) (.inl rfl) (nb rfl) ?_;cbv
   cases hb2:x1
   ·rw[aa hb2] at h_1;cbv;obtain rfl:=Option.some.inj h_1;try dsimp only[lr,lrL,lrp,aR] at h
    obtain rfl:=Option.some.inj h;exact ARet.mk trivial hX.symm
   rw[ab hb2] at h_1;cbv;try rw[hg] at h_1
   try rw[ht] at h_1
   refine⟨⟨(k1+1,(wrap .i64 (add v1 1))),hc1_,hs1,h_1⟩,Wk.of [(0,some 0)] rfl rfl ?_ ?_,a8 hc1_⟩
   ·cbv;all_goals exact⟨⟨_,rfl,rfl⟩,⟨_,rfl,rfl⟩,trivial⟩
   cbv;all_goals exact⟨⟨_,rfl,_,rfl,rfl,rfl,rfl,trivial⟩,trivial⟩
  have hb1:lt v1 (llen (r_Leg a0_Legs))=false:=cR hg ht hi1 hc1_;rw[List.drop_of_length_le (Nat.le_of_not_lt hc1_)] at h_1;rw[dL] at h_1;try rw[←hg] at h_1
  try rw[←ht] at h_1
  try dsimp only at h_1
  rw[hb1];cbv;refine⟨(),Wk.of [(0,some 0)] rfl rfl ?_ ?_,(Option.some.inj h_1).symm⟩
  ·cbv;all_goals exact⟨⟨_,rfl,rfl⟩,trivial⟩
  cbv;all_goals exact⟨⟨_,rfl,_,rfl,rfl,rfl,rfl,trivial⟩,trivial⟩
 rintro _ hy1;replace hy1:=hy1.symm;subst hy1;try dsimp only[lr,lrL,lrp,aR] at h
 cbv;obtain⟨o2,ho2,h⟩:=ac h;try dsimp only at h
 try rw[hg] at ho2
 try rw[ht] at ho2
 refine ABL.mk {p:Nat×Int//p.1≤a0_Off.length∧p.2=((p.1:Nat):Int)∧cV G.real TE.real (Network.mk a0_Legs a0_Off a0_Change) (List.drop p.1 a0_Off) p.2=some o2} (fun⟨⟨k2,v2⟩,_⟩=>({sl:=[(1,.c (.p 0 3 0 0)),(4,.c (.r (.v (.int .i64 v2))))],tab:=[(0,some (.foc 3 [] [.r (.s 6 (r_Leg a0_Legs)),.r (.s 1 (r_I64 a0_Off)),.r (.v (.int .i64 a0_Change))] []))]}:St)) 1 (fun p=>a0_Off.length-p.1.1) ⟨(0,0),Nat.zero_le _,rfl,ho2⟩ (Unit) (fun _=>({sl:=[(1,.c (.p 0 3 0 0))],tab:=[(0,some (.foc 3 [] [.r (.s 6 (r_Leg a0_Legs)),.r (.s 1 (r_I64 a0_Off)),.r (.v (.int .i64 a0_Change))] []))]}:St)) 1 (fun y=>o2=LR.out y) ?_ ?_ ?_
 ·refine Wk.of [(0,some 0)] rfl rfl ?_ ?_
  ·cbv;all_goals exact⟨⟨_,rfl,rfl⟩,⟨_,rfl,rfl⟩,trivial⟩
  cbv;all_goals exact⟨⟨_,rfl,_,rfl,rfl,rfl,rfl,trivial⟩,trivial⟩
 ·rintro⟨⟨k2,v2⟩,hk2,hi2,h_2⟩ hq2;have hm2:=(hq2.2.2.1 0 _ _ _ _ 1 _ _ rfl rfl);try dsimp only at hk2 hi2 h_2
  clear hq2;cbv
  by_cases hc2_:k2<a0_Off.length
  ·have hb3:lt v2 (llen (r_I64 a0_Off))=true:=eX hg ht hi2 hc2_;have hs2:=iY hg ht hi2 hc2_ hm2;obtain⟨z2,hz2⟩:=aL hc2_;rw[aD hz2] at h_2;rw[cV] at h_2;try rw[←hg] at h_2
   try rw[←ht] at h_2
   try dsimp only at h_2
   rw[hb3];cbv;refine AStep.mk (eO hi2) ?_;cbv;refine AGet.mk _ (gf hg ht hi2 hz2) ?_;cbv;obtain⟨x2,hx2,h_2⟩:=ak h_2;try dsimp only at h_2
   refine ACall.mk _ _ rfl (hF _ _ _ (gP hg ht hx2)) (.inl rfl) (nb rfl) ?_;cbv
   cases hb4:x2
   ·rw[aa hb4] at h_2;cbv;iterate 4 try(rw[hb4];cbv)
    obtain rfl:=Option.some.inj h_2;try dsimp only[lr,lrL,lrp,aR] at h
    obtain rfl:=Option.some.inj h;exact ARet.mk trivial hX.symm
   rw[ab hb4] at h_2;cbv;iterate 2 try(rw[hb4];cbv)
   cases hb5:(lt 0 v2)
   ·rw[aa hb5] at h_2;cbv;iterate 11 try(rw[hb5];cbv)
    try(rw[hb4];cbv)
    try(rw[hb5];cbv)
    try(rw[hb4];cbv)
    try rw[hg] at h_2
    try rw[ht] at h_2
    refine⟨⟨(k2+1,(wrap .i64 (add v2 1))),hc2_,hs2,h_2⟩,Wk.of [(0,some 0)] rfl rfl ?_ ?_,a8 hc2_⟩
    ·cbv;all_goals exact⟨⟨_,rfl,rfl⟩,⟨_,rfl,rfl⟩,trivial⟩
    cbv;all_goals exact⟨⟨_,rfl,_,rfl,rfl,rfl,rfl,trivial⟩,trivial⟩
   rw[ab hb5] at h_2;cbv;iterate 4 try(rw[hb5];cbv)
   obtain⟨hc1,h_2⟩:=al h_2;refine AStep.mk hc1 ?_;cbv;obtain⟨x3,hx3,h_2⟩:=aE h_2;try dsimp only at h_2
   refine AGet.mk _ (lf hg ht hx3) ?_;cbv;iterate 5 try(rw[hb5];cbv)
   refine AStep.mk (eO hi2) ?_;cbv;refine AGet.mk _ (gf hg ht hi2 hz2) ?_;cbv;iterate 2 try(rw[hb5];cbv)
   try(rw[hb4];cbv)
   try(rw[hb5];cbv)
   try(rw[hb4];cbv)
   cases hb6:(le z2 x3)
   rotate_left
   ·rw[ab hb6] at h_2;cbv;obtain rfl:=Option.some.inj h_2;try dsimp only[lr,lrL,lrp,aR] at h
    obtain rfl:=Option.some.inj h;exact ARet.mk trivial hX.symm
   rw[aa hb6] at h_2;cbv;try rw[hg] at h_2
   try rw[ht] at h_2
   refine⟨⟨(k2+1,(wrap .i64 (add v2 1))),hc2_,hs2,h_2⟩,Wk.of [(0,some 0)] rfl rfl ?_ ?_,a8 hc2_⟩
   ·cbv;all_goals exact⟨⟨_,rfl,rfl⟩,⟨_,rfl,rfl⟩,trivial⟩
   cbv;all_goals exact⟨⟨_,rfl,_,rfl,rfl,rfl,rfl,trivial⟩,trivial⟩
  have hb3:lt v2 (llen (r_I64 a0_Off))=false:=eB hg ht hi2 hc2_;rw[List.drop_of_length_le (Nat.le_of_not_lt hc2_)] at h_2;rw[cV] at h_2;try rw[←hg] at h_2
  try rw[←ht] at h_2
  try dsimp only at h_2
  rw[hb3];cbv;refine⟨(),Wk.of [(0,some 0)] rfl rfl ?_ ?_,(Option.some.inj h_2).symm⟩
  ·cbv;all_goals exact⟨⟨_,rfl,rfl⟩,trivial⟩
  cbv;all_goals exact⟨⟨_,rfl,_,rfl,rfl,rfl,rfl,trivial⟩,trivial⟩
 rintro _ hy2;replace hy2:=hy2.symm;subst hy2;try dsimp only[lr,lrL,lrp,aR] at h
 cbv
 cases hb7:(le (llen (r_Leg a0_Legs)) 20)
 ·rw[aa hb7] at h;cbv;iterate 4 try(rw[hb7];cbv)
  obtain rfl:=Option.some.inj h;exact ARet.mk trivial hX.symm
 rw[ab hb7] at h;cbv;iterate 4 try(rw[hb7];cbv)
 cases hb8:(le (llen (r_I64 a0_Off)) 10)
 ·rw[aa hb8] at h;cbv;iterate 3 try(rw[hb8];cbv)
  obtain rfl:=Option.some.inj h;exact ARet.mk trivial hX.symm
 rw[ab hb8] at h;cbv;iterate 2 try(rw[hb8];cbv)
 obtain⟨x4,hx4,h⟩:=ak h;try dsimp only at h
 refine ACall.mk _ _ rfl (hF _ _ _ (gP hg ht hx4)) (.inl rfl) (nb rfl) ?_;cbv;try(rw[hb8];cbv)
 obtain rfl:=Option.some.inj h;exact ARet.mk trivial hX.symm
def Iz:J:=js [jm 4 kf] [0,1] (.seq (js [jm 5 (ki 0)] [0,1,5] (.bl 0 (.seq (js [jm 6 5,jm 7 0,jq 8 (.len false 7),jb 9 .lss .i 6 8] [0,1,5,9] (.cond 9 .skip (.exit 0))) (.seq (.block 1 (js [jm 12 0,jm 13 5,ja 14 1 12 13,jk 15 14,jm 16 1,jb 17 .eql .i 15 16] [0,1,5,17] (.cond 17 (js [jm 4 kt] [4] .ret) .skip))) (.reg none [jm 10 5,jb 11 .add .i 10 (ki 1),jm 5 11] [0,1,5]))))) (js [jm 4 kf] [4] .ret))
def Jz:List RV:=[.t 4]
def gT (g:G) (t:TE) (a1:Int):List Int→LR Bool Unit
 |[]=>
  (LR.out ())
 |z1::ls1=>
  br (g.eq z1 a1)
  (
   (LR.ret true))
  (
   gT g t a1 ls1)
def sQ (g:G) (t:TE) (a0:List Int) (a1:Int):Bool:=
 lP (gT g t a1 a0) fun o1=>lrp o1 fun y1=>
 false
theorem Bx {g:G} {t:TE} {a0:List Int} {a1:Int} {r:Bool} (hg:g=G.real) (ht:t=TE.real) (h:sQ g t a0 a1=r):Fn Tryz.prog 154 [.c (.s 1 (t.r_I64 a0)),.c (.v (.int .i64 a1))] (.c (.r (.v (.bool r)))):=by
 obtain⟨X,hX⟩:=aH (.c (.r (.v (.bool r))):X);rw[←hX];refine aw (rvs:=Jz) (j:=Iz) Tryz.func154 rfl (by kernel_rfl) (nb rfl) (by kernel_rfl) af ?_;intro g2 F hg2 hF;obtain rfl:g2=g:=hg2.unique.trans hg.symm;clear hg2;obtain⟨wrap,lt,_,eq,_,_,_,_,_,_,_,_,_,add,_,_,_,_,_,_,_,llen⟩:=g2;obtain⟨_,_,r_I64⟩:=t
 unfold sQ at h;try dsimp only at h
 cbv;obtain⟨o1,ho1,h⟩:=ak h;try dsimp only at h
 try rw[hg] at ho1
 try rw[ht] at ho1
 refine ABL.mk {p:Nat×Int//p.1≤a0.length∧p.2=((p.1:Nat):Int)∧gT G.real TE.real a1 (List.drop p.1 a0)=o1} (fun⟨⟨k1,v1⟩,_⟩=>({sl:=[(0,.c (.r (.s 1 (r_I64 a0)))),(1,.c (.r (.v (.int .i64 a1)))),(5,.c (.r (.v (.int .i64 v1))))],tab:=[]}:St)) 0 (fun p=>a0.length-p.1.1) ⟨(0,0),Nat.zero_le _,rfl,ho1⟩ (Unit) (fun _=>({sl:=[],tab:=[]}:St)) 0 (fun y=>o1=LR.out y) ?_ ?_ ?_
 ·refine Wk.of [] rfl rfl ?_ ?_
  ·cbv;all_goals exact⟨⟨_,rfl,rfl⟩,⟨_,rfl,rfl⟩,⟨_,rfl,rfl⟩,trivial⟩
  cbv;all_goals exact trivial
 ·rintro⟨⟨k1,v1⟩,hk1,hi1,h_1⟩ hq1;have hm1:=(hq1.1 0 _ _ rfl);try dsimp only at hk1 hi1 h_1
  clear hq1;cbv
  by_cases hc1_:k1<a0.length
  ·have hb1:lt v1 (llen (r_I64 a0))=true:=eX hg ht hi1 hc1_;have hs1:=iY hg ht hi1 hc1_ hm1;obtain⟨z1,hz1⟩:=aL hc1_;rw[aD hz1] at h_1;rw[gT] at h_1;try rw[←hg] at h_1
   try rw[←ht] at h_1
   try dsimp only at h_1
   rw[hb1];cbv;refine AStep.mk (eO hi1) ?_;cbv;refine AGet.mk _ (gf hg ht hi1 hz1) ?_;cbv
   cases hb2:(eq z1 a1)
   rotate_left
   ·rw[ab hb2] at h_1;cbv;subst h_1;try dsimp only[lr,lrL,lrp,aR] at h
    subst h;exact ARet.mk trivial hX.symm
   rw[aa hb2] at h_1;cbv;try rw[hg] at h_1
   try rw[ht] at h_1
   refine⟨⟨(k1+1,(wrap .i64 (add v1 1))),hc1_,hs1,h_1⟩,Wk.of [] rfl rfl ?_ ?_,a8 hc1_⟩
   ·cbv;all_goals exact⟨⟨_,rfl,rfl⟩,⟨_,rfl,rfl⟩,⟨_,rfl,rfl⟩,trivial⟩
   cbv;all_goals exact trivial
  have hb1:lt v1 (llen (r_I64 a0))=false:=eB hg ht hi1 hc1_;rw[List.drop_of_length_le (Nat.le_of_not_lt hc1_)] at h_1;rw[gT] at h_1;try rw[←hg] at h_1
  try rw[←ht] at h_1
  try dsimp only at h_1
  rw[hb1];cbv;refine⟨(),Wk.of [] rfl rfl ?_ ?_,h_1.symm⟩
  ·cbv;all_goals exact trivial
  cbv;all_goals exact trivial
 rintro _ hy1;replace hy1:=hy1.symm;subst hy1;try dsimp only[lr,lrL,lrp,aR] at h
 cbv;subst h;exact ARet.mk trivial hX.symm
def Ju:J:=js [jq 3 (.box 0),jm 6 kf] [1,2,3] (js [jm 7 1,jf 8 0 3,jk 9 8,jq 10 (.len false 9),jb 11 .sub .i 10 (ki 1),jc 12 102 [7,(ki 0),11],jm 13 12,ju 14 13 (.mv 2),ju 15 13 (.call 102 true [14,(ki 0),(ki 60)]),jq 16 (.pick 13 15 kf),jm 17 16,ju 18 17 (.fa 0 3),ju 19 17 (.ld false 1 18),ju 20 17 (.mv 1),ju 21 17 (.ia 6 19 20),ju 22 17 (.fa 4 21),ju 23 17 (.ld false 1 22),ju 24 17 (.mv 2),ju 25 17 (.bin .rem .i 24 (ki 7)),ju 26 17 (.bin .shr .i 23 25),ju 27 17 (.bin .and .i 26 (ki 1)),ju 28 17 (.bin .eql .i 27 (ki 1)),jq 29 (.pick 17 28 kf),jm 30 29,ju 31 30 (.fa 1 3),ju 32 30 (.ld false 1 31),ju 33 30 (.mv 2),ju 34 30 (.call 154 true [32,33]),ju 35 30 (.not 34),jq 36 (.pick 30 35 kf),jm 6 36] [6] .ret)
def Jb:List RV:=[.t 6]
def kq (g:G) (t:TE) (a0:Network) (a1:Int) (a2:Int):Option Bool:=
 lP (iQ g t a1 0 (g.wrap .i64 (g.sub (g.llen (t.r_Leg a0.Legs)) 1))) fun x1=>
 br x1
 (
  lP (iQ g t a2 0 60) fun x2=>
  br x2
  (
   gd (((0:Int)≤a1))<|
   gt a0.Legs (g.nat a1) fun x3=>
   gd (((0:Int)≤(g.rem a2 7)))<|
   br (g.eq (g.band .i64 (g.shr .i64 x3.Days (g.rem a2 7)) 1) 1)
   (
    lP (sQ g t a0.Off a2) fun x4=>
    some (!x4))
   (
    some false))
  (
   some false))
 (
  some false)
theorem tn {g:G} {t:TE} {a0:Network} {a1:Int} {a2:Int} {r:Bool} (hg:g=G.real) (ht:t=TE.real) (h:kq g t a0 a1 a2=some r):Fn Tryz.prog 144 [.g (Network.rs t a0),.c (.v (.int .i64 a1)),.c (.v (.int .i64 a2))] (.c (.r (.v (.bool r)))):=by
 obtain⟨X,hX⟩:=aH (.c (.r (.v (.bool r))):X);rw[←hX];refine aw (rvs:=Jb) (j:=Ju) Tryz.func144 rfl (by kernel_rfl) (nb rfl) (by kernel_rfl) af ?_;intro g2 F hg2 hF;obtain rfl:g2=g:=hg2.unique.trans hg.symm;clear hg2;obtain⟨_,_,_,eq,_,rem,band,_,_,_,shr⟩:=g2;obtain⟨_⟩:=t
 obtain⟨a0_Legs,a0_Off,a0_Change⟩:=a0;unfold kq at h;try dsimp only at h
 cbv;obtain⟨x1,hx1,h⟩:=ak h;try dsimp only at h
 refine ACall.mk _ _ rfl (hF _ _ _ (gP hg ht hx1)) (.inl rfl) (nb rfl) ?_;cbv
 cases hb1:x1
 ·rw[aa hb1] at h;cbv;iterate 2 try(rw[hb1];cbv)
  obtain rfl:=Option.some.inj h;exact ARet.mk trivial hX.symm
 rw[ab hb1] at h;cbv;try(rw[hb1];cbv)
 obtain⟨x2,hx2,h⟩:=ak h;try dsimp only at h
 refine ACall.mk _ _ rfl (hF _ _ _ (gP hg ht hx2)) (.inl rfl) (nb rfl) ?_;cbv;try(rw[hb1];cbv)
 cases hb2:x2
 ·rw[aa hb2] at h;cbv;iterate 11 try(rw[hb2];cbv)
  obtain rfl:=Option.some.inj h;exact ARet.mk trivial hX.symm
 rw[ab hb2] at h;cbv;iterate 3 try(rw[hb2];cbv)
 obtain⟨hc1,h⟩:=al h;refine AStep.mk hc1 ?_;cbv;obtain⟨x3,hx3,h⟩:=aE h;obtain⟨x3_From,x3_To,x3_Start,x3_Takes,x3_Days,x3_Room⟩:=x3;try dsimp only at h
 refine AGet.mk _ (aF hg ht hx3) ?_;cbv;iterate 4 try(rw[hb2];cbv)
 refine AStep.mk (by decide) ?_;cbv;try(rw[hb2];cbv)
 obtain⟨hc2,h⟩:=al h;refine AStep.mk hc2 ?_;cbv;iterate 3 try(rw[hb2];cbv)
 cases hb3:(eq (band .i64 (shr .i64 x3_Days (rem a2 7)) 1) 1)
 ·rw[aa hb3] at h;cbv;iterate 5 try(rw[hb3];cbv)
  obtain rfl:=Option.some.inj h;exact ARet.mk trivial hX.symm
 rw[ab hb3] at h;cbv;iterate 3 try(rw[hb3];cbv)
 obtain⟨x4,hx4,h⟩:=ak h;try dsimp only at h
 refine ACall.mk _ _ rfl (hF _ _ _ (Bx hg ht hx4)) (.inl rfl) (nb rfl) ?_;cbv;iterate 2 try(rw[hb3];cbv)
 obtain rfl:=Option.some.inj h;exact ARet.mk trivial hX.symm
def Jt:J:=js [jq 3 (.box 0),jm 6 kf] [1,2,3] (js [jl 7 3 3,jc 8 101 [7],jm 9 8,ju 10 9 (.ld true 3 3),ju 11 9 (.mv 1),ju 12 9 (.mv 2),ju 13 9 (.call 144 true [10,11,12]),jq 14 (.pick 9 13 kf),jm 6 14] [6] .ret)
def IE:List RV:=[.t 6]
def qH (g:G) (t:TE) (a0:Network) (a1:Int) (a2:Int):Option Bool:=
 cl (fm g t a0) fun x1=>
 br x1
 (
  cl (kq g t a0 a1 a2) fun x2=>
  some x2)
 (
  some false)
theorem zK {g:G} {t:TE} {a0:Network} {a1:Int} {a2:Int} {r:Bool} (hg:g=G.real) (ht:t=TE.real) (h:qH g t a0 a1 a2=some r):Fn Tryz.prog 125 [.g (Network.rs t a0),.c (.v (.int .i64 a1)),.c (.v (.int .i64 a2))] (.c (.r (.v (.bool r)))):=by
 obtain⟨X,hX⟩:=aH (.c (.r (.v (.bool r))):X);rw[←hX];refine aw (rvs:=IE) (j:=Jt) Tryz.func125 rfl (by kernel_rfl) (nb rfl) (by kernel_rfl) af ?_;intro g2 F hg2 hF;obtain rfl:g2=g:=hg2.unique.trans hg.symm;clear hg2;obtain⟨_⟩:=g2;obtain⟨_⟩:=t
 obtain⟨a0_Legs,a0_Off,a0_Change⟩:=a0;unfold qH at h;try dsimp only at h
 cbv;obtain⟨x1,hx1,h⟩:=ac h;try dsimp only at h
 refine ACall.mk _ _ rfl (hF _ _ _ (mg hg ht hx1)) (.inl rfl) (nb rfl) ?_;cbv
 cases hb1:x1
 ·rw[aa hb1] at h;cbv;iterate 4 try(rw[hb1];cbv)
  obtain rfl:=Option.some.inj h;exact ARet.mk trivial hX.symm
 rw[ab hb1] at h;cbv;iterate 3 try(rw[hb1];cbv)
 obtain⟨x2,hx2,h⟩:=ac h;try dsimp only at h
 refine ACall.mk _ _ rfl (hF _ _ _ (tn hg ht hx2)) (.inl rfl) (nb rfl) ?_;cbv;try(rw[hb1];cbv)
 obtain rfl:=Option.some.inj h;exact ARet.mk trivial hX.symm
def ir91:J:=js [jq 2 (.box 0),jq 3 (.box 1),jm 4 kf] [2,3] (js [jl 5 3 2,jf 6 0 3,jk 7 6,jf 8 1 3,jk 9 8,jc 10 125 [5,7,9],jm 4 10] [4] .ret)
def rv91:List RV:=[.t 4]
def kx (g:G) (t:TE) (a0:Network) (a1:Trip):Option Bool:=
 cl (qH g t a0 a1.Leg a1.Day) fun x1=>
 some x1
theorem pB {g:G} {t:TE} {a0:Network} {a1:Trip} {r:Bool} (hg:g=G.real) (ht:t=TE.real) (h:kx g t a0 a1=some r):Fn Tryz.prog 91 [.g (Network.rs t a0),.g (Trip.rs t a1)] (.c (.r (.v (.bool r)))):=by
 obtain⟨X,hX⟩:=aH (.c (.r (.v (.bool r))):X);rw[←hX];refine aw (rvs:=rv91) (j:=ir91) Tryz.func91 rfl (by kernel_rfl) (nb rfl) (by kernel_rfl) af ?_;intro g2 F hg2 hF;obtain rfl:g2=g:=hg2.unique.trans hg.symm;clear hg2;obtain⟨_⟩:=g2;obtain⟨_⟩:=t
 obtain⟨a0_Legs,a0_Off,a0_Change⟩:=a0;obtain⟨a1_Leg,a1_Day⟩:=a1;unfold kx at h;try dsimp only at h
 cbv;obtain⟨x1,hx1,h⟩:=ac h;try dsimp only at h
 refine ACall.mk _ _ rfl (hF _ _ _ (zK hg ht hx1)) (.inl rfl) (nb rfl) ?_;cbv;obtain rfl:=Option.some.inj h;exact ARet.mk trivial hX.symm
def ir62 (s_k0:ByteArray):J:=js [jq 2 (.box 0),jq 3 (.box 1),jm 4 kf] [2,3] (.seq (js [jl 5 3 2,jc 6 101 [5],jq 7 (.not 6),jm 8 7,jv 9 8 (.fa 0 3),jv 10 8 (.ld false 1 9),jv 11 8 (.call 102 true [10,(ki 1),(ki 9999)]),jv 12 8 (.not 11),jq 13 (.pick 8 kt 12),jm 14 13,jv 15 14 (.fa 1 3),jv 16 14 (.ld false 1 15),jv 17 14 (.call 102 true [16,(ki 0),(ki 100000)]),jv 18 14 (.not 17),jq 19 (.pick 14 kt 18)] [2,3,19] (.cond 19 (js [jm 4 kf] [4] .ret) .skip)) (.seq (js [jf 20 2 3,jk 21 20] [2,3,21] (.block 0 (.seq (js [jb 23 .eql .i 21 (ki 1),jm 22 23] [2,3,21,22] (.cond 22 .skip (.reg none [jb 24 .eql .i 21 (ki 4),jm 22 24] [2,3,21,22]))) (.cond 22 (.seq (.reg (some [[],[0],[],[2],[0,1,2,3],[0,1,2,3,4],[0,1,2,3,4,5],[0,1,2,3,4,5,6],[0,1,2,3,4,5,6,7],[0,1,2,3,4,5,6],[0,1,2,3,4,5,6,7,8,9],[0,1,2,3,4,5,6,7,8,9,10],[0,1,2,3,4,5,6,7,8,9,10,11]]) [jl 25 3 2,jc 26 78 [25],jf 27 3 3,jk 28 27,jc 29 77 [26,28],jb 30 .geq .i 29 (ki 0),jm 31 30,ju 32 31 (.fa 4 3),ju 33 31 (.ld true 2 32),ju 34 31 (.bld [.r (.v (.int .i64 0)),.r (.v (.int .i64 0))] []),ju 35 31 (.eqs false [.i,.i] 33 34),jq 36 (.pick 31 35 kf),jm 4 36] [4]) .ret) (js [jb 38 .eql .i 21 (ki 3),jm 37 38] [2,3,21,37] (.cond 37 (.seq (.reg (some [[],[0],[0,1],[0,1,2],[0,1,2,3],[0,1,2,3],[0,1,2,3,5],[0,1,2,3,4,5,6],[0,1,2,3,4,5,6,7],[0,1,2,3,4,5,6,7,8],[0,1,2,3,4,5,6,7,8,9],[0,1,2,3,4,5,6,7,8,9,10],[0,1,2,3,4,5,6,7,8,9],[0,1,2,3,4,5,6,7,8,9],[0,1,2,3,4,5,6,7,8,9,13],[0,1,2,3,4,5,6,7,8,9,12,13,14],[0,1,2,3,4,5,6,7,8,9,10,11,12,13,14,15],[0,1,2,3,4,5,6,7,8,9,10,11,12,13,14,15,16],[0,1,2,3,4,5,6,7,8,9,10,11,12,13,14,15,16,17]]) [jf 39 3 3,jk 40 39,jq 41 (.bin .eql .s 40 (.k (.c (.r (.v (.string s_k0)))))),jm 42 41,ju 43 42 (.ld true 3 2),ju 44 42 (.fa 4 3),ju 45 42 (.ld true 2 44),ju 46 42 (.call 91 true [43,45]),jq 47 (.pick 42 46 kf),jm 48 47,ju 49 48 (.fa 1 3),ju 50 48 (.ld false 1 49),ju 51 48 (.ld true 3 2),ju 52 48 (.fa 4 3),ju 53 48 (.ld true 2 52),ju 54 48 (.call 85 true [51,53]),ju 55 48 (.bin .leq .i 50 54),jq 56 (.pick 48 55 kf),jm 4 56] [4]) .ret) (js [jb 58 .eql .i 21 (ki 2),jm 57 58] [2,3,57] (.cond 57 (.seq (.reg (some [[],[0],[0,1],[0,1,2],[0,1,2,3],[0,1,2,3],[0,1,2,3,5],[0,1,2,3,4,5,6],[0,1,2,3,4,5,6,7],[0,1,2,3,4,5,6,7,8],[0,1,2,3,4,5,6,7,8,9],[0,1,2,3,4,5,6,7,8,9,10],[0,1,2,3,4,5,6,7,8,9],[0,1,2,3,4,5,6,7,8,9],[0,1,2,3,4,5,6,7,8,9,13],[0,1,2,3,4,5,6,7,8,9,12,13,14],[0,1,2,3,4,5,6,7,8,9,10,11,12,13,14,15],[0,1,2,3,4,5,6,7,8,9,10,11,12,13,14,15,16],[0,1,2,3,4,5,6,7,8,9,10,11,12,13,14,15,16,17]]) [jf 59 3 3,jk 60 59,jq 61 (.bin
 .eql .s 60 (.k (.c (.r (.v (.string s_k0)))))),jm 62 61,ju 63 62 (.ld true 3 2),ju 64 62 (.fa 4 3),ju 65 62 (.ld true 2 64),ju 66 62 (.call 91 true [63,65]),jq 67 (.pick 62 66 kf),jm 68 67,ju 69 68 (.fa 1 3),ju 70 68 (.ld false 1 69),ju 71 68 (.ld true 3 2),ju 72 68 (.fa 4 3),ju 73 68 (.ld true 2 72),ju 74 68 (.call 86 true [71,73]),ju 75 68 (.bin .geq .i 70 74),jq 76 (.pick 68 75 kf),jm 4 76] [4]) .ret) .skip)))))))) (js [jm 4 kf] [4] .ret)))
def rv62:List RV:=[.t 4]
def iy (g:G) (t:TE) (a0:Network) (a1:Scan):Option Bool:=
 cl (fm g t a0) fun x1=>
 br x1
 (
  lP (iQ g t a1.Thing 1 9999) fun x2=>
  br x2
  (
   lP (iQ g t a1.At 0 100000) fun x3=>
   br x3
   (
    br (g.eq a1.Kind 1)
    (
     cl (dU g t a0) fun x4=>
     lP (eQ g t x4 a1.Place) fun x5=>
     br (g.le 0 x5)
     (
      some (g.all [(g.eq a1.Trip.Leg 0),(g.eq a1.Trip.Day 0)]))
     (
      some false))
    (
     br (g.eq a1.Kind 4)
     (
      cl (dU g t a0) fun x6=>
      lP (eQ g t x6 a1.Place) fun x7=>
      br (g.le 0 x7)
      (
       some (g.all [(g.eq a1.Trip.Leg 0),(g.eq a1.Trip.Day 0)]))
      (
       some false))
     (
      br (g.eq a1.Kind 3)
      (
       br (g.seq a1.Place str_k0)
       (
        cl (kx g t a0 (Trip.mk a1.Trip.Leg a1.Trip.Day)) fun x8=>
        br x8
        (
         cl (bg g t a0 (Trip.mk a1.Trip.Leg a1.Trip.Day)) fun x9=>
         some (g.le a1.At x9))
        (
         some false))
       (
        some false))
      (
       br (g.eq a1.Kind 2)
       (
        br (g.seq a1.Place str_k0)
        (
         cl (kx g t a0 (Trip.mk a1.Trip.Leg a1.Trip.Day)) fun x10=>
         br x10
         (
          cl (bP g t a0 (Trip.mk a1.Trip.Leg a1.Trip.Day)) fun x11=>
          some (g.le x11 a1.At))
         (
          some false))
        (
         some false))
       (
        some false)))))
   (
    some false))
  (
   some false))
 (
  some false)
theorem ka {g:G} {t:TE} {a0:Network} {a1:Scan} {r:Bool} (hg:g=G.real) (ht:t=TE.real) (h:iy g t a0 a1=some r):Fn Tryz.prog 62 [.g (Network.rs t a0),.g (Scan.rs t a1)] (.c (.r (.v (.bool r)))):=by
 obtain⟨X,hX⟩:=aH (.c (.r (.v (.bool r))):X);rw[←hX];refine aw (rvs:=rv62) (j:=(ir62 str_k0)) Tryz.func62 rfl (by kernel_rfl) (nb rfl) (by kernel_rfl) af ?_;intro g2 F hg2 hF;obtain rfl:g2=g:=hg2.unique.trans hg.symm;clear hg2;obtain⟨_,_,le,eq,_,_,_,_,_,_,_,_,_,_,_,_,_,seq,_,_,_,_,_,_,dlen,_,_,_,rd⟩:=g2;obtain⟨_,_,_,_,_,_,r_S,d_S⟩:=t
 obtain⟨a0_Legs,a0_Off,a0_Change⟩:=a0;obtain⟨a1_Thing,a1_At,a1_Kind,a1_Place,⟨a1_Trip_Leg,a1_Trip_Day⟩⟩:=a1;unfold iy at h;try dsimp only at h
 obtain⟨s_k0,hs_k0⟩:∃s,str_k0=s:=⟨_,rfl⟩;try rw[hs_k0] at h
 rw[hs_k0];cbv;obtain⟨x1,hx1,h⟩:=ac h;try dsimp only at h
 refine ACall.mk _ _ rfl (hF _ _ _ (mg hg ht hx1)) (.inl rfl) (nb rfl) ?_;cbv
 cases hb1:x1
 ·rw[aa hb1] at h;cbv;iterate 4 try(rw[hb1];cbv)
  obtain rfl:=Option.some.inj h;exact ARet.mk trivial hX.symm
 rw[ab hb1] at h;cbv;iterate 2 try(rw[hb1];cbv)
 obtain⟨x2,hx2,h⟩:=ak h;try dsimp only at h
 refine ACall.mk _ _ rfl (hF _ _ _ (gP hg ht hx2)) (.inl rfl) (nb rfl) ?_;cbv;iterate 2 try(rw[hb1];cbv)
 cases hb2:x2
 ·rw[aa hb2] at h;cbv;iterate 4 try(rw[hb2];cbv)
  obtain rfl:=Option.some.inj h;exact ARet.mk trivial hX.symm
 rw[ab hb2] at h;cbv;iterate 2 try(rw[hb2];cbv)
 obtain⟨x3,hx3,h⟩:=ak h;try dsimp only at h
 refine ACall.mk _ _ rfl (hF _ _ _ (gP hg ht hx3)) (.inl rfl) (nb rfl) ?_;cbv;iterate 2 try(rw[hb2];cbv)
 cases hb3:x3
 ·rw[aa hb3] at h;cbv;obtain rfl:=Option.some.inj h;exact ARet.mk trivial hX.symm
 rw[ab hb3] at h;cbv
 cases hb4:(eq a1_Kind 1)
 rotate_left
 ·rw[ab hb4] at h;cbv;try(rw[hb4];cbv)
  obtain⟨x4,hx4,h⟩:=ac h;try dsimp only at h
  refine ACall.mk _ _ rfl (hF _ _ _ (fg hg ht hx4)) (.inl rfl) (nb rfl) ?_;cbv;refine AStep.mk (dN ht (aq hg ht _)) ?_;cbv;obtain⟨x5,hx5,h⟩:=ak h;try dsimp only at h
  refine ACall.mk _ _ (by rw[show rd (d_S x4) 0 (dlen (d_S x4))=r_S x4 from fK hg ht (aq hg ht _)];try rfl) (hF _ _ _ (fR hg ht hx5)) (.inr rfl) (nb rfl) ?_
  cbv
  cases hb5:(le 0 x5)
  rotate_left
  ·rw[ab hb5] at h;cbv;iterate 4 try(rw[hb5];cbv)
   obtain rfl:=Option.some.inj h;exact ARet.mk trivial hX.symm
  rw[aa hb5] at h;cbv;iterate 4 try(rw[hb5];cbv)
  obtain rfl:=Option.some.inj h;exact ARet.mk trivial hX.symm
 rw[aa hb4] at h;cbv
 cases hb6:(eq a1_Kind 4)
 rotate_left
 ·rw[ab hb6] at h;cbv;obtain⟨x6,hx6,h⟩:=ac h;try dsimp only at h
  refine ACall.mk _ _ rfl (hF _ _ _ (fg hg ht hx6)) (.inl rfl) (nb rfl) ?_;cbv;refine AStep.mk (dN ht (aq hg ht _)) ?_;cbv;obtain⟨x7,hx7,h⟩:=ak h;try dsimp only at h
  refine ACall.mk _ _ (by rw[show rd (d_S x6) 0 (dlen (d_S x6))=r_S x6 from fK hg ht (aq hg ht _)];try rfl) (hF _ _ _ (fR hg ht hx7)) (.inr rfl) (nb rfl) ?_
  cbv
  cases hb7:(le 0 x7)
  rotate_left
  ·rw[ab hb7] at h;cbv;iterate 4 try(rw[hb7];cbv)
   obtain rfl:=Option.some.inj h;exact ARet.mk trivial hX.symm
  rw[aa hb7] at h;cbv;iterate 4 try(rw[hb7];cbv)
  obtain rfl:=Option.some.inj h;exact ARet.mk trivial hX.symm
 rw[aa hb6] at h;cbv
 cases hb8:(eq a1_Kind 3)
 rotate_left
 ·rw[ab hb8] at h;cbv
  cases hb9:(seq a1_Place s_k0)
  ·rw[aa hb9] at h;cbv;iterate 4 try(rw[hb9];cbv)
   obtain rfl:=Option.some.inj h;exact ARet.mk trivial hX.symm
  rw[ab hb9] at h;cbv;iterate 3 try(rw[hb9];cbv)
  obtain⟨x8,hx8,h⟩:=ac h;try dsimp only at h
  refine ACall.mk _ _ rfl (hF _ _ _ (pB hg ht hx8)) (.inl rfl) (nb rfl) ?_;cbv;try(rw[hb9];cbv)
  cases hb10:x8
  ·rw[aa hb10] at h;cbv;iterate 7 try(rw[hb10];cbv)
   obtain rfl:=Option.some.inj h;exact ARet.mk trivial hX.symm
  rw[ab hb10] at h;cbv;iterate 5 try(rw[hb10];cbv)
  obtain⟨x9,hx9,h⟩:=ac h;try dsimp only at h
  refine ACall.mk _ _ rfl (hF _ _ _ (bq hg ht hx9)) (.inl rfl) (nb rfl) ?_;cbv;iterate 2 try(rw[hb10];cbv)
  obtain rfl:=Option.some.inj h;exact ARet.mk trivial hX.symm
 rw[aa hb8] at h;cbv
 cases hb11:(eq a1_Kind 2)
 ·rw[aa hb11] at h;cbv;obtain rfl:=Option.some.inj h;exact ARet.mk trivial hX.symm
 rw[ab hb11] at h;cbv
 cases hb12:(seq a1_Place s_k0)
 ·rw[aa hb12] at h;cbv;iterate 4 try(rw[hb12];cbv)
  obtain rfl:=Option.some.inj h;exact ARet.mk trivial hX.symm
 rw[ab hb12] at h;cbv;iterate 3 try(rw[hb12];cbv)
 obtain⟨x10,hx10,h⟩:=ac h;try dsimp only at h
 refine ACall.mk _ _ rfl (hF _ _ _ (pB hg ht hx10)) (.inl rfl) (nb rfl) ?_;cbv;try(rw[hb12];cbv)
 cases hb13:x10
 ·rw[aa hb13] at h;cbv;iterate 7 try(rw[hb13];cbv)
  obtain rfl:=Option.some.inj h;exact ARet.mk trivial hX.symm
 rw[ab hb13] at h;cbv;iterate 5 try(rw[hb13];cbv)
 obtain⟨x11,hx11,h⟩:=ac h;try dsimp only at h
 refine ACall.mk _ _ rfl (hF _ _ _ (bR hg ht hx11)) (.inl rfl) (nb rfl) ?_;cbv;iterate 2 try(rw[hb13];cbv)
 obtain rfl:=Option.some.inj h;exact ARet.mk trivial hX.symm
def ir63:J:=js [jq 2 (.box 0),jq 3 (.box 1),jm 4 (ki 0)] [2,3] (js [jf 8 1 2,jk 9 8,jf 10 0 2,jk 11 10,jf 12 2 2,jk 13 12,jf 14 4 2,jf 15 1 14,jk 16 15,jf 17 4 2,jf 18 0 17,jk 19 18,jq 20 (.bsl 1 [9,11,13,16,19]),jm 5 20] [2,3,5] (js [jf 21 1 3,jk 22 21,jf 23 0 3,jk 24 23,jf 25 2 3,jk 26 25,jf 27 4 3,jf 28 1 27,jk 29 28,jf 30 4 3,jf 31 0 30,jk 32 31,jq 33 (.bsl 1 [22,24,26,29,32]),jm 6 33] [2,3,5,6] (.seq (js [jm 7 (ki 0)] [2,3,5,6,7] (.bl 0 (.seq (js [jm 34 7,jm 35 5,jq 36 (.len false 35),jb 37 .lss .i 34 36] [2,3,5,6,7,37] (.cond 37 .skip (.exit 0))) (.seq (.block 1 (.seq (.seq (.reg (some [[],[],[0,1],[0,1,2],[],[],[4,5],[4,5,6],[0,1,2,3,4,5,6,7]]) [jm 40 5,jm 41 7,ja 42 1 40 41,jk 43 42,jm 44 6,jm 45 7,ja 46 1 44 45,jk 47 46,jb 48 .lss .i 43 47] [2,3,5,6,7,48]) (.cond 48 (js [jq 4 (.mv (.k (V.i (-1))))] [4] .ret) .skip)) (.seq (.reg (some [[],[],[0,1],[0,1,2],[],[],[4,5],[4,5,6],[0,1,2,3,4,5,6,7]]) [jm 49 5,jm 50 7,ja 51 1 49 50,jk 52 51,jm 53 6,jm 54 7,ja 55 1 53 54,jk 56 55,jb 57 .gtr .i 52 56] [2,3,5,6,7,57]) (.cond 57 (js [jm 4 (ki 1)] [4] .ret) .skip)))) (.reg none [jm 38 7,jb 39 .add .i 38 (ki 1),jm 7 39] [2,3,5,6,7]))))) (.seq (.block 2 (js [jf 59 3 2,jk 60 59,jf 61 3 3,jk 62 61,jb 63 .lss .s 60 62,jm 58 63] [2,3,58] (.cond 58 (js [jq 4 (.mv (.k (V.i (-1))))] [4] .ret) (js [jf 65 3 2,jk 66 65,jf 67 3 3,jk 68 67,jb 69 .gtr .s 66 68,jm 64 69] [64] (.cond 64 (js [jm 4 (ki 1)] [4] .ret) .skip))))) (js [jm 4 (ki 0)] [4] .ret)))))
def rv63:List RV:=[.t 4]
def bG (g:G) (t:TE) (l1:List Int) (l2:List Int):Nat→Int→Option (LR Int Unit)
 |0,v1=>
  some (LR.out ())
 |n1+1,v1=>
  gt l1 (g.nat v1) fun x1=>
  gd (((0:Int)≤v1∧v1<(((g.dlen (t.d_I64 l2)):Nat):Int)))<|
  gt l2 (g.nat v1) fun x2=>
  br (g.lt x1 x2)
  (
   some (LR.ret (-1)))
  (
   gd (((0:Int)≤v1∧v1<(((g.dlen (t.d_I64 l2)):Nat):Int)))<|
   br (g.lt x2 x1)
   (
    some (LR.ret 1))
   (
    bG g t l1 l2 n1 (g.wrap .i64 (g.add v1 1))))
def eG (g:G) (t:TE) (a0:Scan) (a1:Scan):Option Int:=
 lP ([a0.At,a0.Thing,a0.Kind,a0.Trip.Day,a0.Trip.Leg]) fun(l1:List Int)=>
 lP ([a1.At,a1.Thing,a1.Kind,a1.Trip.Day,a1.Trip.Leg]) fun(l2:List Int)=>
 gd (((g.int (g.dlen (t.d_I64 l1)))≤9223372036854775807))<|
 cl (bG g t l1 l2 (ay 0 (g.int (g.dlen (t.d_I64 l1)))) 0) fun o1=>lr o1 fun y1=>
 br (g.slt a0.Place a1.Place)
 (
  some (-1))
 (
  br (g.sle a0.Place a1.Place)
  (
   some 0)
  (
   some 1))
theorem mK {g:G} {t:TE} {a0:Scan} {a1:Scan} {r:Int} (hg:g=G.real) (ht:t=TE.real) (h:eG g t a0 a1=some r):Fn Tryz.prog 63 [.g (Scan.rs t a0),.g (Scan.rs t a1)] (.c (.r (.v (.int .i64 r)))):=by
 obtain⟨X,hX⟩:=aH (.c (.r (.v (.int .i64 r))):X);rw[←hX];refine aw (rvs:=rv63) (j:=ir63) Tryz.func63 rfl (by kernel_rfl) (nb rfl) (by kernel_rfl) af ?_;intro g2 F hg2 hF;obtain rfl:g2=g:=hg2.unique.trans hg.symm;clear hg2;obtain⟨wrap,lt,_,_,_,_,_,_,_,_,_,_,int,add,_,_,_,_,slt,_,_,_,_,_,dlen,_,_,_,_,_,_,_,_,_,sle⟩:=g2;obtain⟨_,_,_,d_I64⟩:=t
 obtain⟨a0_Thing,a0_At,a0_Kind,a0_Place,⟨a0_Trip_Leg,a0_Trip_Day⟩⟩:=a0;obtain⟨a1_Thing,a1_At,a1_Kind,a1_Place,⟨a1_Trip_Leg,a1_Trip_Day⟩⟩:=a1;unfold eG at h;try dsimp only at h
 cbv;obtain⟨l1,hl1,h⟩:=ak h;try dsimp only at h
 refine ANew.mk (d_I64 l1) (dlen (d_I64 l1)) (by rw[←hl1];exact eM hg ht [a0_At,a0_Thing,a0_Kind,a0_Trip_Day,a0_Trip_Leg]) (by rw[←hl1];exact dg hg ht [a0_At,a0_Thing,a0_Kind,a0_Trip_Day,a0_Trip_Leg]) ?_;cbv;obtain⟨l2,hl2,h⟩:=ak h;try dsimp only at h
 refine ANew.mk (d_I64 l2) (dlen (d_I64 l2)) (by rw[←hl2];exact eM hg ht [a1_At,a1_Thing,a1_Kind,a1_Trip_Day,a1_Trip_Leg]) (by rw[←hl2];exact dg hg ht [a1_At,a1_Thing,a1_Kind,a1_Trip_Day,a1_Trip_Leg]) ?_;cbv;obtain⟨hB1,h⟩:=al h;obtain⟨o1,ho1,h⟩:=ac h;try dsimp only at h
 try rw[hg] at ho1
 try rw[ht] at ho1
 refine ABL.mk {p:Nat×Int//p.1=ay p.2 (int (dlen (d_I64 l1)))∧0≤p.2∧bG G.real TE.real l1 l2 p.1 p.2=some o1} (fun⟨⟨n1,v1⟩,_⟩=>({sl:=[(2,.c (.p 0 6 0 0)),(3,.c (.p 1 6 0 0)),(5,.c (.f 2 1 0 (dlen (d_I64 l1)))),(6,.c (.f 3 1 0 (dlen (d_I64 l2)))),(7,.c (.r (.v (.int .i64 v1))))],tab:=[(0,some (.foc 6 [] [.r (.v (.int .i64 a0_Thing)),.r (.v (.int .i64 a0_At)),.r (.v (.int .i64 a0_Kind)),.r (.v (.string a0_Place)),.r (.v (.int .i64 a0_Trip_Leg)),.r (.v (.int .i64 a0_Trip_Day))] [])),(1,some (.foc 6 [] [.r (.v (.int .i64 a1_Thing)),.r (.v (.int .i64 a1_At)),.r (.v (.int .i64 a1_Kind)),.r (.v (.string a1_Place)),.r (.v (.int .i64 a1_Trip_Leg)),.r (.v (.int .i64 a1_Trip_Day))] [])),(2,some (.arr 1 (d_I64 l1))),(3,some (.arr 1 (d_I64 l2)))]}:St)) 4 (fun p=>p.1.1) ⟨(ay 0 (int (dlen (d_I64 l1))),0),rfl,Int.le_refl _,ho1⟩ (Unit) (fun _=>({sl:=[(2,.c (.p 0 6 0 0)),(3,.c (.p 1 6 0 0))],tab:=[(0,some (.foc 6 [] [.r (.v (.int .i64 a0_Thing)),.r (.v (.int .i64 a0_At)),.r (.v (.int .i64 a0_Kind)),.r (.v (.string a0_Place)),.r (.v (.int .i64 a0_Trip_Leg)),.r (.v (.int .i64 a0_Trip_Day))] [])),(1,some (.foc 6 [] [.r (.v (.int .i64 a1_Thing)),.r (.v (.int .i64 a1_At)),.r (.v (.int .i64 a1_Kind)),.r (.v (.string a1_Place)),.r (.v (.int .i64 a1_Trip_Leg)),.r (.v (.int .i64 a1_Trip_Day))] []))]}:St)) 2 (fun y=>o1=LR.out y) ?_ ?_ ?_
 ·refine Wk.of [(0,some 0),(1,some 16),(2,some 240),(3,some 464)] rfl rfl ?_ ?_
  ·cbv;all_goals exact⟨⟨_,rfl,rfl⟩,⟨_,rfl,rfl⟩,⟨_,rfl,rfl⟩,⟨_,rfl,rfl⟩,⟨_,rfl,rfl⟩,trivial⟩
  cbv;all_goals exact⟨⟨_,rfl,_,rfl,rfl,rfl,rfl,rfl,rfl,rfl,trivial⟩,⟨_,rfl,_,rfl,rfl,rfl,rfl,rfl,rfl,rfl,trivial⟩,⟨_,rfl,rfl⟩,⟨_,rfl,rfl⟩,trivial⟩
 ·rintro⟨⟨n1,v1⟩,hn1,hi1,h_1⟩ hq1;try dsimp only at hn1 hi1 h_1
  clear hq1;cbv;rcases n1 with _|n1
  ·have hb1:lt v1 (int (dlen (d_I64 l1)))=false:=bu hg hn1;rw[bG] at h_1;try rw[←hg] at h_1
   try rw[←ht] at h_1
   try dsimp only at h_1
   rw[hb1];cbv;refine⟨(),Wk.of [(0,some 0),(1,some 1)] rfl rfl ?_ ?_,(Option.some.inj h_1).symm⟩
   ·cbv;all_goals exact⟨⟨_,rfl,rfl⟩,⟨_,rfl,rfl⟩,trivial⟩
   cbv;all_goals exact⟨⟨_,rfl,_,rfl,rfl,rfl,rfl,rfl,rfl,rfl,trivial⟩,⟨_,rfl,_,rfl,rfl,rfl,rfl,rfl,rfl,rfl,trivial⟩,trivial⟩
  have hb1:lt v1 (int (dlen (d_I64 l1)))=true:=bF hg hn1;have hl1:=d8 hn1;have hs1:=cM hg hn1 hi1 hB1 (by decide);rw[bG] at h_1;try rw[←hg] at h_1
  try rw[←ht] at h_1
  try dsimp only at h_1
  rw[hb1];cbv;refine AStep.mk (dR hg hi1 hl1) ?_;cbv;obtain⟨x1,hx1,h_1⟩:=aE h_1;try dsimp only at h_1
  refine AGet.mk _ (bY hg ht hx1) ?_;cbv;obtain⟨hc1,h_1⟩:=al h_1;refine AStep.mk hc1 ?_;cbv;obtain⟨x2,hx2,h_1⟩:=aE h_1;try dsimp only at h_1
  refine AGet.mk _ (bY hg ht hx2) ?_;cbv
  cases hb2:(lt x1 x2)
  rotate_left
  ·rw[ab hb2] at h_1;cbv;obtain rfl:=Option.some.inj h_1;try dsimp only[lr,lrL,lrp,aR] at h
   obtain rfl:=Option.some.inj h;exact ARet.mk trivial hX.symm
  rw[aa hb2] at h_1;cbv;refine AStep.mk (dR hg hi1 hl1) ?_;cbv;refine AGet.mk _ (bY hg ht hx1) ?_;cbv;obtain⟨hc2,h_1⟩:=al h_1;refine AStep.mk hc2 ?_;cbv;refine AGet.mk _ (bY hg ht hx2) ?_;cbv
  cases hb3:(lt x2 x1)
  rotate_left
  ·rw[ab hb3] at h_1;cbv;obtain rfl:=Option.some.inj h_1;try dsimp only[lr,lrL,lrp,aR] at h
   obtain rfl:=Option.some.inj h;exact ARet.mk trivial hX.symm
  rw[aa hb3] at h_1;cbv;try rw[hg] at h_1
  try rw[ht] at h_1
  refine⟨⟨(n1,(wrap .i64 (add v1 1))),hs1.1,hs1.2,h_1⟩,Wk.of [(0,some 0),(1,some 1),(2,some 2),(3,some 3)] rfl rfl ?_ ?_,Nat.lt_succ_self _⟩
  ·cbv;all_goals exact⟨⟨_,rfl,rfl⟩,⟨_,rfl,rfl⟩,⟨_,rfl,rfl⟩,⟨_,rfl,rfl⟩,⟨_,rfl,rfl⟩,trivial⟩
  cbv;all_goals exact⟨⟨_,rfl,_,rfl,rfl,rfl,rfl,rfl,rfl,rfl,trivial⟩,⟨_,rfl,_,rfl,rfl,rfl,rfl,rfl,rfl,rfl,trivial⟩,⟨_,rfl,rfl⟩,⟨_,rfl,rfl⟩,trivial⟩
 rintro _ hy1;replace hy1:=hy1.symm;subst hy1;try dsimp only[lr,lrL,lrp,aR] at h
 cbv
 cases hb4:(slt a0_Place a1_Place)
 rotate_left
 ·rw[ab hb4] at h;cbv;obtain rfl:=Option.some.inj h;exact ARet.mk trivial hX.symm
 rw[aa hb4] at h;cbv
 cases hb5:(sle a0_Place a1_Place)
 rotate_left
 ·rw[ab hb5] at h;cbv;obtain rfl:=Option.some.inj h;exact ARet.mk trivial hX.symm
 rw[aa hb5] at h;cbv;obtain rfl:=Option.some.inj h;exact ARet.mk trivial hX.symm
def ir17:J:=js [jq 2 (.box 0),jq 4 (.mv (.k (.c (.n 6))))] [1,2] (js [jq 8 (.bsl 6 []),jm 5 8] [1,2,5] (.seq (js [jm 6 (ki 0)] [1,2,5,6] (.bl 0 (.seq (js [jm 9 6,jm 10 1,jq 11 (.len false 10),jb 12 .lss .i 9 11,jm 13 12,ju 14 13 (.mv 6),ju 15 13 (.bin .lss .i 14 (ki 200)),jq 16 (.pick 13 15 kf)] [1,2,5,6,16] (.cond 16 .skip (.exit 0))) (.seq (.block 1 (.seq (.seq (.reg (some [[],[],[],[1,2],[1,2,3],[0,1,2,3,4],[0,1,2,3,4,5]]) [jl 19 3 2,jm 20 1,jm 21 6,ja 22 6 20 21,jl 23 6 22,jc 24 62 [19,23],jq 25 (.not 24)] [1,2,5,6,25]) (.cond 25 (.exit 1) .skip)) (js [jm 7 (ki 0)] [1,2,5,6,7] (.seq (.bl 2 (.seq (.seq (.reg (some [[],[],[1],[0,1,2],[0,1,2,3],[0,1,2,3,4],[0,1,2,3,4],[0,1,2,3,4,5,6],[0,1,2,3,4,5,6,7],[0,1,2,3,4],[0,1,2,3,4],[0,1,2,3,4,9,10],[0,1,2,3,4,9,10,11],[0,1,2,3,4,5,6,7,8,9,10,11,12],[0,1,2,3,4,5,6,7,8,9,10,11,12,13],[0,1,2,3,4,5,6,7,8,9,10,11,12,13,14]]) [jm 26 7,jm 27 5,jq 28 (.len false 27),jb 29 .lss .i 26 28,jm 30 29,ju 31 30 (.mv 5),ju 32 30 (.mv 7),ju 33 30 (.ia 6 31 32),ju 34 30 (.ld true 6 33),ju 35 30 (.mv 1),ju 36 30 (.mv 6),ju 37 30 (.ia 6 35 36),ju 38 30 (.ld true 6 37),ju 39 30 (.call 63 true [34,38]),ju 40 30 (.bin .lss .i 39 (ki 0)),jq 41 (.pick 30 40 kf)] [1,2,5,6,7,41]) (.cond 41 .skip (.exit 2))) (.block 3 (.reg none [jm 42 7,jb 43 .add .i 42 (ki 1),jm 7 43] [1,2,5,6,7])))) (.seq (.reg (some [[],[],[1],[0,1,2],[0,1,2,3],[0,1,2,3,4],[0,1,2,3,4],[0,1,2,3,4,5,6],[0,1,2,3,4,5,6,7],[0,1,2,3,4],[0,1,2,3,4],[0,1,2,3,4,9,10],[0,1,2,3,4,9,10,11],[0,1,2,3,4,5,6,7,8,9,10,11,12],[0,1,2,3,4,5,6,7,8,9,10,11,12,13]]) [jm 44 7,jm 45 5,jq 46 (.len false 45),jb 47 .eql .i 44 46,jm 48 47,jv 49 48 (.mv 5),jv 50 48 (.mv 7),jv 51 48 (.ia 6 49 50),jv 52 48 (.ld true 6 51),jv 53 48 (.mv 1),jv 54 48 (.mv 6),jv 55 48 (.ia 6 53 54),jv 56 48 (.ld true 6 55),jv 57 48 (.eqs true [.i,.i,.i,.s,.i,.i] 52 56),jq 58 (.pick 48 kt 57)] [1,2,5,6,7,58]) (.cond 58 (.reg (some [[],[],[],[1,2],[0,1,2,3],[],[],[5,6],[5,6,7],[5,6,7,8],[0,1,2,3,4,5,6,7,8,9],[],[],[11,12],[0,1,2,3,4,5,6,7,8,9,10,11,12,13],[0,1,2,3,4,5,6,7,8,9,10,11,12,13,14]]) [jq 59 (.bsl 6 []),jm 60 5,jm 61 7,jq 62 (.sl 6 60 none (some 61)),jq 63 (.app 6 56 false 59 62),jm 64 1,jm 65 6,ja 66 6 64 65,jl 67 6 66,jq 68 (.bsl 6 [67]),jq 69 (.app 6 56 true 63 68),jm 70 5,jm 71 7,jq 72 (.sl 6 70 (some 71) none),jq 73 (.app 6 56 false 69 72),jm 5 73] [1,2,5,6]) .skip)))))) (.reg none [jm 17 6,jb 18 .add .i 17 (ki 1),jm 6 18] [1,2,5,6]))))) (js [jm 74 5,jm 4 74] [4] .ret)))
def rv17:List RV:=[.t 4]
def cX (g:G) (t:TE) (w1:List Scan) (z1:Scan):Nat→Int→Option Int
 |0,v2=>
  some v2
 |n2+1,v2=>
  gt w1 (g.nat v2) fun x2=>
  cl (eG g t (Scan.mk x2.Thing x2.At x2.Kind x2.Place (Trip.mk x2.Trip.Leg x2.Trip.Day)) (Scan.mk z1.Thing z1.At z1.Kind z1.Place (Trip.mk z1.Trip.Leg z1.Trip.Day))) fun x3=>
  br (g.lt x3 0)
  (
   cX g t w1 z1 n2 (g.wrap .i64 (g.add v2 1)))
  (
   some v2)
def bN (g:G) (t:TE) (a0:Network):List Scan→Int→List Scan→Option (List Scan)
 |[],v1,w1=>
  some w1
 |z1::ls1,v1,w1=>
  br (g.lt v1 200)
  (
   cl (iy g t a0 (Scan.mk z1.Thing z1.At z1.Kind z1.Place (Trip.mk z1.Trip.Leg z1.Trip.Day))) fun x1=>
   br x1
   (
    gd (((g.int (g.dlen (t.d_Scan w1)))≤9223372036854775807))<|
    cl (cX g t w1 z1 (ay 0 (g.int (g.dlen (t.d_Scan w1)))) 0) fun y1=>
    br (g.eq y1 (g.int (g.dlen (t.d_Scan w1))))
    (
     lP ([]) fun(l2:List Scan)=>
     gd (((0:Int)≤0∧0≤y1∧y1≤(((g.dlen (t.d_Scan w1)):Nat):Int)))<|
     gd (((g.nat 0)+(g.nsub (g.nat y1) (g.nat 0))≤w1.length))<|
     gd (((l2.length+(List.take (g.nsub (g.nat y1) (g.nat 0)) (List.drop (g.nat 0) w1)).length)*56≤70368744177664))<|
     lP (l2++(List.take (g.nsub (g.nat y1) (g.nat 0)) (List.drop (g.nat 0) w1))) fun(l3:List Scan)=>
     lP ([(Scan.mk z1.Thing z1.At z1.Kind z1.Place (Trip.mk z1.Trip.Leg z1.Trip.Day))]) fun(l4:List Scan)=>
     gd (((l3.length+l4.length)*56≤70368744177664))<|
     lP (l3++l4) fun(l5:List Scan)=>
     gd (((0:Int)≤y1∧y1≤(g.int (g.dlen (t.d_Scan w1)))∧(g.int (g.dlen (t.d_Scan w1)))≤(((g.dlen (t.d_Scan w1)):Nat):Int)))<|
     gd (((g.nat y1)+(g.nsub (g.nat (g.int (g.dlen (t.d_Scan w1)))) (g.nat y1))≤w1.length))<|
     gd (((l5.length+(List.take (g.nsub (g.nat (g.int (g.dlen (t.d_Scan w1)))) (g.nat y1)) (List.drop (g.nat y1) w1)).length)*56≤70368744177664))<|
     lP (l5++(List.take (g.nsub (g.nat (g.int (g.dlen (t.d_Scan w1)))) (g.nat y1)) (List.drop (g.nat y1) w1))) fun(l6:List Scan)=>
     bN g t a0 ls1 (g.wrap .i64 (g.add v1 1)) l6)
    (
     gd (((0:Int)≤y1∧y1<(((g.dlen (t.d_Scan w1)):Nat):Int)))<|
     gt w1 (g.nat y1) fun x4=>
     br (g.all [(g.eq x4.Thing z1.Thing),(g.eq x4.At z1.At),(g.eq x4.Kind z1.Kind),(g.seq x4.Place z1.Place),(g.eq x4.Trip.Leg z1.Trip.Leg),(g.eq x4.Trip.Day z1.Trip.Day)])
     (
      bN g t a0 ls1 (g.wrap .i64 (g.add v1 1)) w1)
     (
      lP ([]) fun(l7:List Scan)=>
      gd (((0:Int)≤0∧0≤y1∧y1≤(((g.dlen (t.d_Scan w1)):Nat):Int)))<|
      gd (((g.nat 0)+(g.nsub (g.nat y1) (g.nat 0))≤w1.length))<|
      gd (((l7.length+(List.take (g.nsub (g.nat y1) (g.nat 0)) (List.drop (g.nat 0) w1)).length)*56≤70368744177664))<|
      lP (l7++(List.take (g.nsub (g.nat y1) (g.nat 0)) (List.drop (g.nat 0) w1))) fun(l8:List Scan)=>
      lP ([(Scan.mk z1.Thing z1.At z1.Kind z1.Place (Trip.mk z1.Trip.Leg z1.Trip.Day))]) fun(l9:List Scan)=>
      gd (((l8.length+l9.length)*56≤70368744177664))<|
      lP (l8++l9) fun(l10:List Scan)=>
      gd (((0:Int)≤y1∧y1≤(g.int (g.dlen (t.d_Scan w1)))∧(g.int (g.dlen (t.d_Scan w1)))≤(((g.dlen (t.d_Scan w1)):Nat):Int)))<|
      gd (((g.nat y1)+(g.nsub (g.nat (g.int (g.dlen (t.d_Scan w1)))) (g.nat y1))≤w1.length))<|
      gd (((l10.length+(List.take (g.nsub (g.nat (g.int (g.dlen (t.d_Scan w1)))) (g.nat y1)) (List.drop (g.nat y1) w1)).length)*56≤70368744177664))<|
      lP (l10++(List.take (g.nsub (g.nat (g.int (g.dlen (t.d_Scan w1)))) (g.nat y1)) (List.drop (g.nat y1) w1))) fun(l11:List Scan)=>
      bN g t a0 ls1 (g.wrap .i64 (g.add v1 1)) l11)))
   (
    bN g t a0 ls1 (g.wrap .i64 (g.add v1 1)) w1))
  (
   some w1)
def i7 (g:G) (t:TE) (a0:Network) (a1:List Scan):Option (List Scan):=
 lP ([]) fun(l1:List Scan)=>
 cl (bN g t a0 a1 0 l1) fun y2=>
 some y2
theorem o9 {g:G} {t:TE} {a0:Network} {a1:List Scan} {r:List Scan} (hg:g=G.real) (ht:t=TE.real) (h:i7 g t a0 a1=some r):Fn Tryz.prog 17 [.g (Network.rs t a0),.c (.s 6 (t.r_Scan a1))] (.c (.o 6 (t.d_Scan r))):=by
 obtain⟨X,hX⟩:=aH (.c (.o 6 (t.d_Scan r)):X);rw[←hX];refine aw (rvs:=rv17) (j:=ir17) Tryz.func17 rfl (by kernel_rfl) (nb rfl) (by kernel_rfl) af ?_;intro g2 F hg2 hF;obtain rfl:g2=g:=hg2.unique.trans hg.symm;clear hg2;obtain⟨wrap,lt,_,eq,_,_,_,_,_,_,_,_,int,add,_,_,_,seq,_,_,_,llen,_,_,dlen,_,_,_,_,_,_,_,_,all⟩:=g2;obtain⟨r_Leg,_,r_I64,_,r_Scan,d_Scan⟩:=t
 obtain⟨a0_Legs,a0_Off,a0_Change⟩:=a0;unfold i7 at h;try dsimp only at h
 cbv;obtain⟨l1,hl1,h⟩:=ak h;try dsimp only at h
 refine ANew.mk (d_Scan l1) (dlen (d_Scan l1)) (by rw[←hl1];exact cL hg ht []) (by rw[←hl1];exact bM hg ht []) ?_;cbv;obtain⟨o1,ho1,h⟩:=ac h;try dsimp only at h
 try rw[hg] at ho1
 try rw[ht] at ho1
 refine ABL.mk {p:Nat×Int×List Scan//p.1≤a1.length∧p.2.1=((p.1:Nat):Int)∧bN G.real TE.real (Network.mk a0_Legs a0_Off a0_Change) (List.drop p.1 a1) p.2.1 p.2.2=some o1} (fun⟨⟨k1,v1,w1⟩,_⟩=>({sl:=[(1,.c (.r (.s 6 (r_Scan a1)))),(2,.c (.p 0 3 0 0)),(5,.c (.f 1 6 0 (dlen (d_Scan w1)))),(6,.c (.r (.v (.int .i64 v1))))],tab:=[(0,some (.foc 3 [] [.r (.s 6 (r_Leg a0_Legs)),.r (.s 1 (r_I64 a0_Off)),.r (.v (.int .i64 a0_Change))] [])),(1,some (.arr 6 (d_Scan w1)))]}:St)) 2 (fun p=>a1.length-p.1.1) ⟨(0,0,l1),Nat.zero_le _,rfl,ho1⟩ (List Scan) (fun y2=>({sl:=[(5,.c (.f 0 6 0 (dlen (d_Scan y2))))],tab:=[(0,some (.arr 6 (d_Scan y2)))]}:St)) 1 (fun y=>o1=y) ?_ ?_ ?_
 ·refine Wk.of [(0,some 0),(1,some 32)] rfl rfl ?_ ?_
  ·cbv;all_goals exact⟨⟨_,rfl,rfl⟩,⟨_,rfl,rfl⟩,⟨_,rfl,rfl⟩,⟨_,rfl,rfl⟩,trivial⟩
  cbv;all_goals exact⟨⟨_,rfl,_,rfl,rfl,rfl,rfl,trivial⟩,⟨_,rfl,rfl⟩,trivial⟩
 ·rintro⟨⟨k1,v1,w1⟩,hk1,hi1,h_1⟩ hq1;have hm1:=(hq1.1 1 _ _ rfl);try dsimp only at hk1 hi1 h_1
  clear hq1;cbv
  by_cases hc1_:k1<a1.length
  ·have hb1:lt v1 (llen (r_Scan a1))=true:=gr hg ht hi1 hc1_;have hs1:=jZ hg ht hi1 hc1_ hm1;obtain⟨z1,hz1⟩:=aL hc1_;rw[aD hz1] at h_1;rw[bN] at h_1;obtain⟨z1_Thing,z1_At,z1_Kind,z1_Place,⟨z1_Trip_Leg,z1_Trip_Day⟩⟩:=z1;try rw[←hg] at h_1
   try rw[←ht] at h_1
   try dsimp only at h_1
   rw[hb1];cbv;iterate 2 try(rw[hb1];cbv)
   cases hb2:(lt v1 200)
   ·rw[aa hb2] at h_1;cbv;refine⟨w1,Wk.of [(0,some 1)] rfl rfl ?_ ?_,(Option.some.inj h_1).symm⟩
    ·cbv;all_goals exact⟨⟨_,rfl,rfl⟩,trivial⟩
    cbv;all_goals exact⟨⟨_,rfl,rfl⟩,trivial⟩
   rw[ab hb2] at h_1;cbv;refine AStep.mk (eO hi1) ?_;cbv;refine AGet.mk _ (bS hg ht hi1 hz1) ?_;cbv;obtain⟨x1,hx1,h_1⟩:=ac h_1;try dsimp only at h_1
   refine ACall.mk _ _ rfl (hF _ _ _ (ka hg ht hx1)) (.inl rfl) (nb rfl) ?_;cbv
   cases hb3:x1
   ·rw[aa hb3] at h_1;cbv;try rw[hg] at h_1
    try rw[ht] at h_1
    refine⟨⟨(k1+1,(wrap .i64 (add v1 1)),w1),hc1_,hs1,h_1⟩,Wk.of [(0,some 0),(1,some 1)] rfl rfl ?_ ?_,a8 hc1_⟩
    ·cbv;all_goals exact⟨⟨_,rfl,rfl⟩,⟨_,rfl,rfl⟩,⟨_,rfl,rfl⟩,⟨_,rfl,rfl⟩,trivial⟩
    cbv;all_goals exact⟨⟨_,rfl,_,rfl,rfl,rfl,rfl,trivial⟩,⟨_,rfl,rfl⟩,trivial⟩
   rw[ab hb3] at h_1;cbv;obtain⟨hB2,h_1⟩:=al h_1;obtain⟨o2,ho2,h_1⟩:=ac h_1;try dsimp only at h_1
   try rw[hg] at ho2
   try rw[ht] at ho2
   refine ABL.mk {p:Nat×Int//p.1=ay p.2 (int (dlen (d_Scan w1)))∧0≤p.2∧cX G.real TE.real w1 (Scan.mk z1_Thing z1_At z1_Kind z1_Place (Trip.mk z1_Trip_Leg z1_Trip_Day)) p.1 p.2=some o2} (fun⟨⟨n2,v2⟩,_⟩=>({sl:=[(1,.c (.r (.s 6 (r_Scan a1)))),(2,.c (.p 0 3 0 0)),(5,.c (.f 1 6 0 (dlen (d_Scan w1)))),(6,.c (.r (.v (.int .i64 v1)))),(7,.c (.r (.v (.int .i64 v2))))],tab:=[(0,some (.foc 3 [] [.r (.s 6 (r_Leg a0_Legs)),.r (.s 1 (r_I64 a0_Off)),.r (.v (.int .i64 a0_Change))] [])),(1,some (.arr 6 (d_Scan w1)))]}:St)) 2 (fun p=>p.1.1) ⟨(ay 0 (int (dlen (d_Scan w1))),0),rfl,Int.le_refl _,ho2⟩ (Int) (fun y1=>({sl:=[(1,.c (.r (.s 6 (r_Scan a1)))),(2,.c (.p 0 3 0 0)),(5,.c (.f 1 6 0 (dlen (d_Scan w1)))),(6,.c (.r (.v (.int .i64 v1)))),(7,.c (.r (.v (.int .i64 y1))))],tab:=[(0,some (.foc 3 [] [.r (.s 6 (r_Leg a0_Legs)),.r (.s 1 (r_I64 a0_Off)),.r (.v (.int .i64 a0_Change))] [])),(1,some (.arr 6 (d_Scan w1)))]}:St)) 2 (fun y=>o2=y) ?_ ?_ ?_
   ·refine Wk.of [(0,some 0),(1,some 1)] rfl rfl ?_ ?_
    ·cbv;all_goals exact⟨⟨_,rfl,rfl⟩,⟨_,rfl,rfl⟩,⟨_,rfl,rfl⟩,⟨_,rfl,rfl⟩,⟨_,rfl,rfl⟩,trivial⟩
    cbv;all_goals exact⟨⟨_,rfl,_,rfl,rfl,rfl,rfl,trivial⟩,⟨_,rfl,rfl⟩,trivial⟩
   ·rintro⟨⟨n2,v2⟩,hn2,hi2,h_2⟩ hq2;try dsimp only at hn2 hi2 h_2
    clear hq2;cbv;rcases n2 with _|n2
    ·have hb4:lt v2 (int (dlen (d_Scan w1)))=false:=bu hg hn2;rw[cX] at h_2;try rw[←hg] at h_2
     try rw[←ht] at h_2
     try dsimp only at h_2
     rw[hb4];cbv;iterate 10 try(rw[hb4];cbv)
     refine⟨v2,Wk.of [(0,some 0),(1,some 1)] rfl rfl ?_ ?_,(Option.some.inj h_2).symm⟩
     ·cbv;all_goals exact⟨⟨_,rfl,rfl⟩,⟨_,rfl,rfl⟩,⟨_,rfl,rfl⟩,⟨_,rfl,rfl⟩,⟨_,rfl,rfl⟩,trivial⟩
     cbv;all_goals exact⟨⟨_,rfl,_,rfl,rfl,rfl,rfl,trivial⟩,⟨_,rfl,rfl⟩,trivial⟩
    have hb4:lt v2 (int (dlen (d_Scan w1)))=true:=bF hg hn2;have hl2:=d8 hn2;have hs2:=cM hg hn2 hi2 hB2 (by decide);rw[cX] at h_2;try rw[←hg] at h_2
    try rw[←ht] at h_2
    try dsimp only at h_2
    rw[hb4];cbv;iterate 2 try(rw[hb4];cbv)
    refine AStep.mk (dR hg hi2 hl2) ?_;cbv;try(rw[hb4];cbv)
    obtain⟨x2,hx2,h_2⟩:=aE h_2;obtain⟨x2_Thing,x2_At,x2_Kind,x2_Place,⟨x2_Trip_Leg,x2_Trip_Day⟩⟩:=x2;try dsimp only at h_2
    refine AGet.mk _ (aG hg ht hx2) ?_;cbv;iterate 3 try(rw[hb4];cbv)
    refine AStep.mk (eO hi1) ?_;cbv;refine AGet.mk _ (bS hg ht hi1 hz1) ?_;cbv;iterate 2 try(rw[hb4];cbv)
    obtain⟨x3,hx3,h_2⟩:=ac h_2;try dsimp only at h_2
    refine ACall.mk _ _ rfl (hF _ _ _ (mK hg ht hx3)) (.inl rfl) (nb rfl) ?_;cbv;iterate 2 try(rw[hb4];cbv)
    cases hb5:(lt x3 0)
    ·rw[aa hb5] at h_2;cbv;refine⟨v2,Wk.of [(0,some 0),(1,some 1)] rfl rfl ?_ ?_,(Option.some.inj h_2).symm⟩
     ·cbv;all_goals exact⟨⟨_,rfl,rfl⟩,⟨_,rfl,rfl⟩,⟨_,rfl,rfl⟩,⟨_,rfl,rfl⟩,⟨_,rfl,rfl⟩,trivial⟩
     cbv;all_goals exact⟨⟨_,rfl,_,rfl,rfl,rfl,rfl,trivial⟩,⟨_,rfl,rfl⟩,trivial⟩
    rw[ab hb5] at h_2;cbv;try rw[hg] at h_2
    try rw[ht] at h_2
    refine⟨⟨(n2,(wrap .i64 (add v2 1))),hs2.1,hs2.2,h_2⟩,Wk.of [(0,some 0),(1,some 1)] rfl rfl ?_ ?_,Nat.lt_succ_self _⟩
    ·cbv;all_goals exact⟨⟨_,rfl,rfl⟩,⟨_,rfl,rfl⟩,⟨_,rfl,rfl⟩,⟨_,rfl,rfl⟩,⟨_,rfl,rfl⟩,trivial⟩
    cbv;all_goals exact⟨⟨_,rfl,_,rfl,rfl,rfl,rfl,trivial⟩,⟨_,rfl,rfl⟩,trivial⟩
   rintro y1 hy2;replace hy2:=hy2.symm;subst hy2;try dsimp only[lr,lrL,lrp,aR] at h_1
   cbv
   cases hb6:(eq y1 (int (dlen (d_Scan w1))))
   rotate_left
   ·rw[ab hb6] at h_1;cbv;iterate 9 try(rw[hb6];cbv)
    obtain⟨l2,hl2,h_1⟩:=ak h_1;try dsimp only at h_1
    refine ANew.mk (d_Scan l2) (dlen (d_Scan l2)) (by rw[←hl2];exact cL hg ht []) (by rw[←hl2];exact bM hg ht []) ?_;cbv;obtain⟨hc1,h_1⟩:=al h_1;refine AStep.mk hc1 ?_;cbv;obtain⟨hc6,h_1⟩:=al h_1;obtain⟨hc7,h_1⟩:=al h_1;refine AStep.mk ⟨(kV hg ht hc6),(bO hg ht (ah hg ht _) (eT hg ht _ _ _) hc7)⟩ ?_;cbv;obtain⟨l3,hl3,h_1⟩:=ak h_1;try dsimp only at h_1
    refine ANew.mk (d_Scan l3) (dlen (d_Scan l3)) (by rw[←hl3];exact eJ hg ht (ah hg ht _) (eT hg ht _ _ _)) (by rw[←hl3];exact di hg ht (ah hg ht _) (eT hg ht _ _ _)) ?_;cbv;refine AStep.mk (eO hi1) ?_;cbv;refine AGet.mk _ (bS hg ht hi1 hz1) ?_;cbv;obtain⟨l4,hl4,h_1⟩:=ak h_1;try dsimp only at h_1
    refine ANew.mk (d_Scan l4) (dlen (d_Scan l4)) (by rw[←hl4];exact cL hg ht [(Scan.mk z1_Thing z1_At z1_Kind z1_Place (Trip.mk z1_Trip_Leg z1_Trip_Day))]) (by rw[←hl4];exact bM hg ht [(Scan.mk z1_Thing z1_At z1_Kind z1_Place (Trip.mk z1_Trip_Leg z1_Trip_Day))]) ?_;cbv;obtain⟨hc5,h_1⟩:=al h_1;refine AStep.mk ⟨⟨rfl,(ah hg ht _)⟩,(bO hg ht (ah hg ht _) rfl hc5)⟩ ?_;cbv;obtain⟨l5,hl5,h_1⟩:=ak h_1;try dsimp only at h_1
    refine ANew.mk (d_Scan l5) (dlen (d_Scan l5)) (by rw[←hl5];exact eJ hg ht (ah hg ht _) rfl) (by rw[←hl5];exact di hg ht (ah hg ht _) rfl) ?_;cbv;obtain⟨hc2,h_1⟩:=al h_1;refine AStep.mk hc2 ?_;cbv;obtain⟨hc3,h_1⟩:=al h_1;obtain⟨hc4,h_1⟩:=al h_1;refine AStep.mk ⟨(kV hg ht hc3),(bO hg ht (ah hg ht _) (eT hg ht _ _ _) hc4)⟩ ?_;cbv;obtain⟨l6,hl6,h_1⟩:=ak h_1;try dsimp only at h_1
    refine ANew.mk (d_Scan l6) (dlen (d_Scan l6)) (by rw[←hl6];exact eJ hg ht (ah hg ht _) (eT hg ht _ _ _)) (by rw[←hl6];exact di hg ht (ah hg ht _) (eT hg ht _ _ _)) ?_;cbv;try rw[hg] at h_1
    try rw[ht] at h_1
    refine⟨⟨(k1+1,(wrap .i64 (add v1 1)),l6),hc1_,hs1,h_1⟩,Wk.of [(0,some 0),(1,some 466)] rfl rfl ?_ ?_,a8 hc1_⟩
    ·cbv;all_goals exact⟨⟨_,rfl,rfl⟩,⟨_,rfl,rfl⟩,⟨_,rfl,rfl⟩,⟨_,rfl,rfl⟩,trivial⟩
    cbv;all_goals exact⟨⟨_,rfl,_,rfl,rfl,rfl,rfl,trivial⟩,⟨_,rfl,rfl⟩,trivial⟩
   rw[aa hb6] at h_1;cbv;iterate 2 try(rw[hb6];cbv)
   obtain⟨hc8,h_1⟩:=al h_1;refine AStep.mk hc8 ?_;cbv;try(rw[hb6];cbv)
   obtain⟨x4,hx4,h_1⟩:=aE h_1;obtain⟨x4_Thing,x4_At,x4_Kind,x4_Place,⟨x4_Trip_Leg,x4_Trip_Day⟩⟩:=x4;try dsimp only at h_1
   refine AGet.mk _ (aG hg ht hx4) ?_;cbv;iterate 3 try(rw[hb6];cbv)
   refine AStep.mk (eO hi1) ?_;cbv;refine AGet.mk _ (bS hg ht hi1 hz1) ?_;cbv;iterate 3 try(rw[hb6];cbv)
   cases hb7:(all [(eq x4_Thing z1_Thing),(eq x4_At z1_At),(eq x4_Kind z1_Kind),(seq x4_Place z1_Place),(eq x4_Trip_Leg z1_Trip_Leg),(eq x4_Trip_Day z1_Trip_Day)])
   rotate_left
   ·rw[ab hb7] at h_1;cbv;try rw[hg] at h_1
    try rw[ht] at h_1
    refine⟨⟨(k1+1,(wrap .i64 (add v1 1)),w1),hc1_,hs1,h_1⟩,Wk.of [(0,some 0),(1,some 1)] rfl rfl ?_ ?_,a8 hc1_⟩
    ·cbv;all_goals exact⟨⟨_,rfl,rfl⟩,⟨_,rfl,rfl⟩,⟨_,rfl,rfl⟩,⟨_,rfl,rfl⟩,trivial⟩
    cbv;all_goals exact⟨⟨_,rfl,_,rfl,rfl,rfl,rfl,trivial⟩,⟨_,rfl,rfl⟩,trivial⟩
   rw[aa hb7] at h_1;cbv;obtain⟨l7,hl7,h_1⟩:=ak h_1;try dsimp only at h_1
   refine ANew.mk (d_Scan l7) (dlen (d_Scan l7)) (by rw[←hl7];exact cL hg ht []) (by rw[←hl7];exact bM hg ht []) ?_;cbv;obtain⟨hc9,h_1⟩:=al h_1;refine AStep.mk hc9 ?_;cbv;obtain⟨hc14,h_1⟩:=al h_1;obtain⟨hc15,h_1⟩:=al h_1;refine AStep.mk ⟨(kV hg ht hc14),(bO hg ht (ah hg ht _) (eT hg ht _ _ _) hc15)⟩ ?_;cbv;obtain⟨l8,hl8,h_1⟩:=ak h_1;try dsimp only at h_1
   refine ANew.mk (d_Scan l8) (dlen (d_Scan l8)) (by rw[←hl8];exact eJ hg ht (ah hg ht _) (eT hg ht _ _ _)) (by rw[←hl8];exact di hg ht (ah hg ht _) (eT hg ht _ _ _)) ?_;cbv;refine AStep.mk (eO hi1) ?_;cbv;refine AGet.mk _ (bS hg ht hi1 hz1) ?_;cbv;obtain⟨l9,hl9,h_1⟩:=ak h_1;try dsimp only at h_1
   refine ANew.mk (d_Scan l9) (dlen (d_Scan l9)) (by rw[←hl9];exact cL hg ht [(Scan.mk z1_Thing z1_At z1_Kind z1_Place (Trip.mk z1_Trip_Leg z1_Trip_Day))]) (by rw[←hl9];exact bM hg ht [(Scan.mk z1_Thing z1_At z1_Kind z1_Place (Trip.mk z1_Trip_Leg z1_Trip_Day))]) ?_;cbv;obtain⟨hc13,h_1⟩:=al h_1;refine AStep.mk ⟨⟨rfl,(ah hg ht _)⟩,(bO hg ht (ah hg ht _) rfl hc13)⟩ ?_;cbv;obtain⟨l10,hl10,h_1⟩:=ak h_1;try dsimp only at h_1
   refine ANew.mk (d_Scan l10) (dlen (d_Scan l10)) (by rw[←hl10];exact eJ hg ht (ah hg ht _) rfl) (by rw[←hl10];exact di hg ht (ah hg ht _) rfl) ?_;cbv;obtain⟨hc10,h_1⟩:=al h_1;refine AStep.mk hc10 ?_;cbv;obtain⟨hc11,h_1⟩:=al h_1;obtain⟨hc12,h_1⟩:=al h_1;refine AStep.mk ⟨(kV hg ht hc11),(bO hg ht (ah hg ht _) (eT hg ht _ _ _) hc12)⟩ ?_;cbv;obtain⟨l11,hl11,h_1⟩:=ak h_1;try dsimp only at h_1
   refine ANew.mk (d_Scan l11) (dlen (d_Scan l11)) (by rw[←hl11];exact eJ hg ht (ah hg ht _) (eT hg ht _ _ _)) (by rw[←hl11];exact di hg ht (ah hg ht _) (eT hg ht _ _ _)) ?_;cbv;try rw[hg] at h_1
   try rw[ht] at h_1
   refine⟨⟨(k1+1,(wrap .i64 (add v1 1)),l11),hc1_,hs1,h_1⟩,Wk.of [(0,some 0),(1,some 466)] rfl rfl ?_ ?_,a8 hc1_⟩
   ·cbv;all_goals exact⟨⟨_,rfl,rfl⟩,⟨_,rfl,rfl⟩,⟨_,rfl,rfl⟩,⟨_,rfl,rfl⟩,trivial⟩
   cbv;all_goals exact⟨⟨_,rfl,_,rfl,rfl,rfl,rfl,trivial⟩,⟨_,rfl,rfl⟩,trivial⟩
  have hb1:lt v1 (llen (r_Scan a1))=false:=fz hg ht hi1 hc1_;rw[List.drop_of_length_le (Nat.le_of_not_lt hc1_)] at h_1;rw[bN] at h_1;try rw[←hg] at h_1
  try rw[←ht] at h_1
  try dsimp only at h_1
  rw[hb1];cbv;iterate 2 try(rw[hb1];cbv)
  refine⟨w1,Wk.of [(0,some 1)] rfl rfl ?_ ?_,(Option.some.inj h_1).symm⟩
  ·cbv;all_goals exact⟨⟨_,rfl,rfl⟩,trivial⟩
  cbv;all_goals exact⟨⟨_,rfl,rfl⟩,trivial⟩
 rintro y2 hy1;replace hy1:=hy1.symm;subst hy1;try dsimp only[lr,lrL,lrp,aR] at h
 cbv;obtain rfl:=Option.some.inj h;exact ARet.mk ⟨rfl,(ah hg ht _)⟩ hX.symm
def I4:J:=js [jq 1 (.box 0),jq 2 (.alloc [.r (.v (.string .empty)),.r (.v (.string .empty)),.r (.v (.int .i64 0)),.r (.v (.int .i64 0)),.r (.v (.int .i64 0)),.r (.v (.int .i64 0))])] [1,2] (js [jq 3 (.alloc [.r (.v (.string .empty)),.r (.v (.string .empty)),.r (.v (.int .i64 0)),.r (.v (.int .i64 0)),.r (.v (.int .i64 0)),.r (.v (.int .i64 0))])] [1,2,3] (js [jf 4 0 1,jk 5 4,jf 6 0 3,jp (.st 1 6 5)] [1,2,3] (js [jf 7 1 1,jk 8 7,jf 9 1 3,jp (.st 1 9 8)] [1,2,3] (js [jf 10 2 1,jk 11 10,jf 12 2 3,jp (.st 1 12 11)] [1,2,3] (js [jf 13 3 1,jk 14 13,jf 15 3 3,jp (.st 1 15 14)] [1,2,3] (js [jf 16 4 1,jk 17 16,jf 18 4 3,jp (.st 1 18 17)] [1,2,3] (js [jf 19 5 1,jk 20 19,jf 21 5 3,jp (.st 1 21 20)] [2,3] (js [jl 22 6 3,jp (.st 6 2 22)] [2] .ret))))))))
def IK:List RV:=[.c 2 true 6]
def sT (g:G) (t:TE) (a0:Leg):Leg:=
 a0
theorem Cw {g:G} {t:TE} {a0:Leg} {r:Leg} (hg:g=G.real) (ht:t=TE.real) (h:sT g t a0=r):Fn Tryz.prog 103 [.g (Leg.rs t a0)] (.g (Leg.ds t r)):=by
 obtain⟨X,hX⟩:=aH (.g (Leg.ds t r):X);rw[←hX];refine aw (rvs:=IK) (j:=I4) Tryz.func103 rfl (by kernel_rfl) (nb rfl) (by kernel_rfl) af ?_;intro g2 F hg2 hF;obtain rfl:g2=g:=hg2.unique.trans hg.symm;clear hg2;obtain⟨_⟩:=g2;obtain⟨_⟩:=t
 obtain⟨a0_From,a0_To,a0_Start,a0_Takes,a0_Days,a0_Room⟩:=a0;unfold sT at h;try dsimp only at h
 cbv;subst h;exact ARet.mk trivial hX.symm
def ir64:J:=js [jq 2 (.mv (.k (.c (.n 6))))] [0] (js [jm 5 0,jq 6 (.len false 5),jq 7 (.mk 6 64 [.r (.v (.string .empty)),.r (.v (.string .empty)),.r (.v (.int .i64 0)),.r (.v (.int .i64 0)),.r (.v (.int .i64 0)),.r (.v (.int .i64 0))] 6),jm 3 7] [0,3] (.seq (js [jm 4 (ki 0)] [0,3,4] (.bl 0 (.seq (js [jm 8 4,jm 9 0,jq 10 (.len false 9),jb 11 .lss .i 8 10] [0,3,4,11] (.cond 11 .skip (.exit 0))) (.seq (.block 1 (.reg none [jm 14 3,jm 15 4,jm 16 0,jm 17 4,ja 18 6 16 17,jl 19 6 18,jc 20 103 [19],ja 21 6 14 15,jp (.st 6 21 20)] [0,3,4])) (.reg none [jm 12 4,jb 13 .add .i 12 (ki 1),jm 4 13] [0,3,4]))))) (js [jm 22 3,jm 2 22] [2] .ret)))
def rv64:List RV:=[.t 2]
def fG (g:G) (t:TE):List Leg→Int→List Leg→Option (List Leg)
 |[],v1,w1=>
  some w1
 |z1::ls1,v1,w1=>
  lP (sT g t z1) fun x1=>
  gd (((0:Int)≤v1∧v1<(((g.dlen (t.d_Leg w1)):Nat):Int)))<|
  gt w1 (g.nat v1) fun x2=>
  lP (List.set w1 (g.nat v1) (Leg.mk x1.From x1.To x1.Start x1.Takes x1.Days x1.Room)) fun(l2:List Leg)=>
  fG g t ls1 (g.wrap .i64 (g.add v1 1)) l2
def n7 (g:G) (t:TE) (a0:List Leg):Option (List Leg):=
 gd (((0:Int)≤(g.llen (t.r_Leg a0))∧64* (g.llen (t.r_Leg a0))≤70368744177664∧(g.llen (t.r_Leg a0))≤4611686018427387904))<|
 lP (List.replicate (g.nat (g.llen (t.r_Leg a0))) (Leg.mk ByteArray.empty ByteArray.empty 0 0 0 0)) fun(l1:List Leg)=>
 cl (fG g t a0 0 l1) fun y1=>
 some y1
theorem zy {g:G} {t:TE} {a0:List Leg} {r:List Leg} (hg:g=G.real) (ht:t=TE.real) (h:n7 g t a0=some r):Fn Tryz.prog 64 [.c (.s 6 (t.r_Leg a0))] (.c (.o 6 (t.d_Leg r))):=by
 obtain⟨X,hX⟩:=aH (.c (.o 6 (t.d_Leg r)):X);rw[←hX];refine aw (rvs:=rv64) (j:=ir64) Tryz.func64 rfl (by kernel_rfl) (nb rfl) (by kernel_rfl) af ?_;intro g2 F hg2 hF;obtain rfl:g2=g:=hg2.unique.trans hg.symm;clear hg2;obtain⟨wrap,lt,_,_,_,_,_,_,_,_,_,_,_,add,_,_,_,_,_,_,_,llen,_,_,dlen⟩:=g2;obtain⟨r_Leg,d_Leg⟩:=t
 unfold n7 at h;try dsimp only at h
 cbv;obtain⟨hc2,h⟩:=al h;refine AStep.mk (D3 hc2) ?_;cbv;obtain⟨l1,hl1,h⟩:=ak h;try dsimp only at h
 refine ANew.mk (d_Leg l1) (dlen (d_Leg l1)) (by rw[←hl1];exact C2 hg ht _ (Leg.mk ByteArray.empty ByteArray.empty 0 0 0 0)) (by rw[←hl1];exact Ci hg ht _ (Leg.mk ByteArray.empty ByteArray.empty 0 0 0 0)) ?_;cbv;obtain⟨o1,ho1,h⟩:=ac h;try dsimp only at h
 try rw[hg] at ho1
 try rw[ht] at ho1
 refine ABL.mk {p:Nat×Int×List Leg//p.1≤a0.length∧p.2.1=((p.1:Nat):Int)∧fG G.real TE.real (List.drop p.1 a0) p.2.1 p.2.2=some o1} (fun⟨⟨k1,v1,w1⟩,_⟩=>({sl:=[(0,.c (.r (.s 6 (r_Leg a0)))),(3,.c (.f 0 6 0 (dlen (d_Leg w1)))),(4,.c (.r (.v (.int .i64 v1))))],tab:=[(0,some (.arr 6 (d_Leg w1)))]}:St)) 1 (fun p=>a0.length-p.1.1) ⟨(0,0,l1),Nat.zero_le _,rfl,ho1⟩ (List Leg) (fun y1=>({sl:=[(3,.c (.f 0 6 0 (dlen (d_Leg y1))))],tab:=[(0,some (.arr 6 (d_Leg y1)))]}:St)) 1 (fun y=>o1=y) ?_ ?_ ?_
 ·refine Wk.of [(0,some 48)] rfl rfl ?_ ?_
  ·cbv;all_goals exact⟨⟨_,rfl,rfl⟩,⟨_,rfl,rfl⟩,⟨_,rfl,rfl⟩,trivial⟩
  cbv;all_goals exact⟨⟨_,rfl,rfl⟩,trivial⟩
 ·rintro⟨⟨k1,v1,w1⟩,hk1,hi1,h_1⟩ hq1;have hm1:=(hq1.1 0 _ _ rfl);try dsimp only at hk1 hi1 h_1
  clear hq1;cbv
  by_cases hc1_:k1<a0.length
  ·have hb1:lt v1 (llen (r_Leg a0))=true:=dw hg ht hi1 hc1_;have hs1:=gw hg ht hi1 hc1_ hm1;obtain⟨z1,hz1⟩:=aL hc1_;rw[aD hz1] at h_1;rw[fG] at h_1;obtain⟨z1_From,z1_To,z1_Start,z1_Takes,z1_Days,z1_Room⟩:=z1;try rw[←hg] at h_1
   try rw[←ht] at h_1
   try dsimp only at h_1
   rw[hb1];cbv;refine AStep.mk (eO hi1) ?_;cbv;refine AGet.mk _ (fS hg ht hi1 hz1) ?_;cbv;obtain⟨x1,hx1,h_1⟩:=ak h_1;obtain⟨x1_From,x1_To,x1_Start,x1_Takes,x1_Days,x1_Room⟩:=x1;try dsimp only at h_1
   refine ACall.mk _ _ rfl (hF _ _ _ (Cw hg ht hx1)) (.inl rfl) (nb rfl) ?_;cbv;obtain⟨hc1,h_1⟩:=al h_1;refine AStep.mk hc1 ?_;cbv;obtain⟨x2,hx2,h_1⟩:=aE h_1;obtain⟨x2_From,x2_To,x2_Start,x2_Takes,x2_Days,x2_Room⟩:=x2;try dsimp only at h_1
   refine AGet.mk _ (jQ hg ht hx2) ?_;cbv;obtain⟨l2,hl2,h_1⟩:=ak h_1;try dsimp only at h_1
   refine ANew.mk (d_Leg l2) _ (by rw[←hl2];exact lI hg ht _ _ (Leg.mk x1_From x1_To x1_Start x1_Takes x1_Days x1_Room)) rfl ?_;have hnl2:(dlen (d_Leg w1))=(d_Leg l2).length:=(by rw[←hl2,j6 ht];exact(aN hg ht _));cbv;try rw[hg] at h_1
   try rw[ht] at h_1
   refine⟨⟨(k1+1,(wrap .i64 (add v1 1)),l2),hc1_,hs1,h_1⟩,Wk.of [(0,some 0)] rfl rfl ?_ ?_,a8 hc1_⟩
   ·cbv;all_goals try rw[show(dlen (d_Leg w1))=(dlen (d_Leg l2)) from(hnl2).trans (aN hg ht _).symm]
    all_goals exact⟨⟨_,rfl,rfl⟩,⟨_,rfl,rfl⟩,⟨_,rfl,rfl⟩,trivial⟩
   cbv;all_goals try rw[show(dlen (d_Leg w1))=(dlen (d_Leg l2)) from(hnl2).trans (aN hg ht _).symm]
   all_goals exact⟨⟨_,rfl,rfl⟩,trivial⟩
  have hb1:lt v1 (llen (r_Leg a0))=false:=cR hg ht hi1 hc1_;rw[List.drop_of_length_le (Nat.le_of_not_lt hc1_)] at h_1;rw[fG] at h_1;try rw[←hg] at h_1
  try rw[←ht] at h_1
  try dsimp only at h_1
  rw[hb1];cbv;refine⟨w1,Wk.of [(0,some 0)] rfl rfl ?_ ?_,(Option.some.inj h_1).symm⟩
  ·cbv;all_goals exact⟨⟨_,rfl,rfl⟩,trivial⟩
  cbv;all_goals exact⟨⟨_,rfl,rfl⟩,trivial⟩
 rintro y1 hy1;replace hy1:=hy1.symm;subst hy1;try dsimp only[lr,lrL,lrp,aR] at h
 cbv;obtain rfl:=Option.some.inj h;exact ARet.mk ⟨rfl,(aN hg ht _)⟩ hX.symm
def ir65:J:=js [jq 2 (.mv (.k (.c (.n 1))))] [0] (js [jm 5 0,jq 6 (.len false 5),jq 7 (.mk 1 8 [.r (.v (.int .i64 0))] 6),jm 3 7] [0,3] (.seq (js [jm 4 (ki 0)] [0,3,4] (.bl 0 (.seq (js [jm 8 4,jm 9 0,jq 10 (.len false 9),jb 11 .lss .i 8 10] [0,3,4,11] (.cond 11 .skip (.exit 0))) (.seq (.block 1 (.reg none [jm 14 3,jm 15 4,jm 16 0,jm 17 4,ja 18 1 16 17,jk 19 18,ja 20 1 14 15,jp (.st 1 20 19)] [0,3,4])) (.reg none [jm 12 4,jb 13 .add .i 12 (ki 1),jm 4 13] [0,3,4]))))) (js [jm 21 3,jm 2 21] [2] .ret)))
def rv65:List RV:=[.t 2]
def fH (g:G) (t:TE):List Int→Int→List Int→Option (List Int)
 |[],v1,w1=>
  some w1
 |z1::ls1,v1,w1=>
  gd (((0:Int)≤v1∧v1<(((g.dlen (t.d_I64 w1)):Nat):Int)))<|
  gt w1 (g.nat v1) fun x1=>
  lP (List.set w1 (g.nat v1) z1) fun(l2:List Int)=>
  fH g t ls1 (g.wrap .i64 (g.add v1 1)) l2
def oD (g:G) (t:TE) (a0:List Int):Option (List Int):=
 gd (((0:Int)≤(g.llen (t.r_I64 a0))∧8* (g.llen (t.r_I64 a0))≤70368744177664∧(g.llen (t.r_I64 a0))≤4611686018427387904))<|
 lP (List.replicate (g.nat (g.llen (t.r_I64 a0))) 0) fun(l1:List Int)=>
 cl (fH g t a0 0 l1) fun y1=>
 some y1
theorem Ak {g:G} {t:TE} {a0:List Int} {r:List Int} (hg:g=G.real) (ht:t=TE.real) (h:oD g t a0=some r):Fn Tryz.prog 65 [.c (.s 1 (t.r_I64 a0))] (.c (.o 1 (t.d_I64 r))):=by
 obtain⟨X,hX⟩:=aH (.c (.o 1 (t.d_I64 r)):X);rw[←hX];refine aw (rvs:=rv65) (j:=ir65) Tryz.func65 rfl (by kernel_rfl) (nb rfl) (by kernel_rfl) af ?_;intro g2 F hg2 hF;obtain rfl:g2=g:=hg2.unique.trans hg.symm;clear hg2;obtain⟨wrap,lt,_,_,_,_,_,_,_,_,_,_,_,add,_,_,_,_,_,_,_,llen,_,_,dlen⟩:=g2;obtain⟨_,_,r_I64,d_I64⟩:=t
 unfold oD at h;try dsimp only at h
 cbv;obtain⟨hc2,h⟩:=al h;refine AStep.mk (D3 hc2) ?_;cbv;obtain⟨l1,hl1,h⟩:=ak h;try dsimp only at h
 refine ANew.mk (d_I64 l1) (dlen (d_I64 l1)) (by rw[←hl1];exact Ep hg ht _ 0) (by rw[←hl1];exact B8 hg ht _ 0) ?_;cbv;obtain⟨o1,ho1,h⟩:=ac h;try dsimp only at h
 try rw[hg] at ho1
 try rw[ht] at ho1
 refine ABL.mk {p:Nat×Int×List Int//p.1≤a0.length∧p.2.1=((p.1:Nat):Int)∧fH G.real TE.real (List.drop p.1 a0) p.2.1 p.2.2=some o1} (fun⟨⟨k1,v1,w1⟩,_⟩=>({sl:=[(0,.c (.r (.s 1 (r_I64 a0)))),(3,.c (.f 0 1 0 (dlen (d_I64 w1)))),(4,.c (.r (.v (.int .i64 v1))))],tab:=[(0,some (.arr 1 (d_I64 w1)))]}:St)) 1 (fun p=>a0.length-p.1.1) ⟨(0,0,l1),Nat.zero_le _,rfl,ho1⟩ (List Int) (fun y1=>({sl:=[(3,.c (.f 0 1 0 (dlen (d_I64 y1))))],tab:=[(0,some (.arr 1 (d_I64 y1)))]}:St)) 1 (fun y=>o1=y) ?_ ?_ ?_
 ·refine Wk.of [(0,some 48)] rfl rfl ?_ ?_
  ·cbv;all_goals exact⟨⟨_,rfl,rfl⟩,⟨_,rfl,rfl⟩,⟨_,rfl,rfl⟩,trivial⟩
  cbv;all_goals exact⟨⟨_,rfl,rfl⟩,trivial⟩
 ·rintro⟨⟨k1,v1,w1⟩,hk1,hi1,h_1⟩ hq1;have hm1:=(hq1.1 0 _ _ rfl);try dsimp only at hk1 hi1 h_1
  clear hq1;cbv
  by_cases hc1_:k1<a0.length
  ·have hb1:lt v1 (llen (r_I64 a0))=true:=eX hg ht hi1 hc1_;have hs1:=iY hg ht hi1 hc1_ hm1;obtain⟨z1,hz1⟩:=aL hc1_;rw[aD hz1] at h_1;rw[fH] at h_1;try rw[←hg] at h_1
   try rw[←ht] at h_1
   try dsimp only at h_1
   rw[hb1];cbv;refine AStep.mk (eO hi1) ?_;cbv;refine AGet.mk _ (gf hg ht hi1 hz1) ?_;cbv;obtain⟨hc1,h_1⟩:=al h_1;refine AStep.mk hc1 ?_;cbv;obtain⟨x1,hx1,h_1⟩:=aE h_1;try dsimp only at h_1
   refine AGet.mk _ (bY hg ht hx1) ?_;cbv;obtain⟨l2,hl2,h_1⟩:=ak h_1;try dsimp only at h_1
   refine ANew.mk (d_I64 l2) _ (by rw[←hl2];exact lB hg ht _ _ z1) rfl ?_;have hnl2:(dlen (d_I64 w1))=(d_I64 l2).length:=(by rw[←hl2,jL ht];exact(am hg ht _));cbv;try rw[hg] at h_1
   try rw[ht] at h_1
   refine⟨⟨(k1+1,(wrap .i64 (add v1 1)),l2),hc1_,hs1,h_1⟩,Wk.of [(0,some 0)] rfl rfl ?_ ?_,a8 hc1_⟩
   ·cbv;all_goals try rw[show(dlen (d_I64 w1))=(dlen (d_I64 l2)) from(hnl2).trans (am hg ht _).symm]
    all_goals exact⟨⟨_,rfl,rfl⟩,⟨_,rfl,rfl⟩,⟨_,rfl,rfl⟩,trivial⟩
   cbv;all_goals try rw[show(dlen (d_I64 w1))=(dlen (d_I64 l2)) from(hnl2).trans (am hg ht _).symm]
   all_goals exact⟨⟨_,rfl,rfl⟩,trivial⟩
  have hb1:lt v1 (llen (r_I64 a0))=false:=eB hg ht hi1 hc1_;rw[List.drop_of_length_le (Nat.le_of_not_lt hc1_)] at h_1;rw[fH] at h_1;try rw[←hg] at h_1
  try rw[←ht] at h_1
  try dsimp only at h_1
  rw[hb1];cbv;refine⟨w1,Wk.of [(0,some 0)] rfl rfl ?_ ?_,(Option.some.inj h_1).symm⟩
  ·cbv;all_goals exact⟨⟨_,rfl,rfl⟩,trivial⟩
  cbv;all_goals exact⟨⟨_,rfl,rfl⟩,trivial⟩
 rintro y1 hy1;replace hy1:=hy1.symm;subst hy1;try dsimp only[lr,lrL,lrp,aR] at h
 cbv;obtain rfl:=Option.some.inj h;exact ARet.mk ⟨rfl,(am hg ht _)⟩ hX.symm
def ir18:J:=js [jq 1 (.box 0),jq 2 (.alloc [.n 6,.n 1,.r (.v (.int .i64 0))])] [1,2] (js [jq 3 (.alloc [.n 6,.n 1,.r (.v (.int .i64 0))])] [1,2,3] (js [jf 4 0 1,jk 5 4,jc 6 64 [5],jf 7 0 3,jp (.st 1 7 6)] [1,2,3] (js [jf 8 1 1,jk 9 8,jc 10 65 [9],jf 11 1 3,jp (.st 1 11 10)] [1,2,3] (js [jf 12 2 1,jk 13 12,jf 14 2 3,jp (.st 1 14 13)] [2,3] (js [jl 15 3 3,jp (.st 3 2 15)] [2] .ret)))))
def rv18:List RV:=[.c 2 true 3]
def ar (g:G) (t:TE) (a0:Network):Option Network:=
 cl (n7 g t a0.Legs) fun x1=>
 cl (oD g t a0.Off) fun x2=>
 some (Network.mk x1 x2 a0.Change)
theorem ap {g:G} {t:TE} {a0:Network} {r:Network} (hg:g=G.real) (ht:t=TE.real) (h:ar g t a0=some r):Fn Tryz.prog 18 [.g (Network.rs t a0)] (.g (Network.ds t r)):=by
 obtain⟨X,hX⟩:=aH (.g (Network.ds t r):X);rw[←hX];refine aw (rvs:=rv18) (j:=ir18) Tryz.func18 rfl (by kernel_rfl) (nb rfl) (by kernel_rfl) af ?_;intro g2 F hg2 hF;obtain rfl:g2=g:=hg2.unique.trans hg.symm;clear hg2;obtain⟨_⟩:=g2;obtain⟨_⟩:=t
 obtain⟨a0_Legs,a0_Off,a0_Change⟩:=a0;unfold ar at h;try dsimp only at h
 cbv;obtain⟨x1,hx1,h⟩:=ac h;try dsimp only at h
 refine ACall.mk _ _ rfl (hF _ _ _ (zy hg ht hx1)) (.inl rfl) (nb rfl) ?_;cbv;obtain⟨x2,hx2,h⟩:=ac h;try dsimp only at h
 refine ACall.mk _ _ rfl (hF _ _ _ (Ak hg ht hx2)) (.inl rfl) (nb rfl) ?_;cbv;obtain rfl:=Option.some.inj h;exact ARet.mk ⟨⟨rfl,(aN hg ht _)⟩,⟨rfl,(am hg ht _)⟩⟩ hX.symm
def ir45:J:=js [jq 1 (.box 0),jq 2 (.alloc [.r (.v (.int .i64 0)),.r (.v (.int .i64 0))])] [1,2] (js [jq 3 (.alloc [.r (.v (.int .i64 0)),.r (.v (.int .i64 0))])] [1,2,3] (js [jf 4 0 1,jk 5 4,jf 6 0 3,jp (.st 1 6 5)] [1,2,3] (js [jf 7 1 1,jk 8 7,jf 9 1 3,jp (.st 1 9 8)] [2,3] (js [jl 10 2 3,jp (.st 2 2 10)] [2] .ret))))
def rv45:List RV:=[.c 2 true 2]
def mQ (g:G) (t:TE) (a0:Trip):Trip:=
 a0
theorem pK {g:G} {t:TE} {a0:Trip} {r:Trip} (hg:g=G.real) (ht:t=TE.real) (h:mQ g t a0=r):Fn Tryz.prog 45 [.g (Trip.rs t a0)] (.g (Trip.ds t r)):=by
 obtain⟨X,hX⟩:=aH (.g (Trip.ds t r):X);rw[←hX];refine aw (rvs:=rv45) (j:=ir45) Tryz.func45 rfl (by kernel_rfl) (nb rfl) (by kernel_rfl) af ?_;intro g2 F hg2 hF;obtain rfl:g2=g:=hg2.unique.trans hg.symm;clear hg2;obtain⟨_⟩:=g2;obtain⟨_⟩:=t
 obtain⟨a0_Leg,a0_Day⟩:=a0;unfold mQ at h;try dsimp only at h
 cbv;subst h;exact ARet.mk trivial hX.symm
def ir66:J:=js [jq 1 (.box 0),jq 2 (.alloc [.r (.v (.int .i64 0)),.r (.v (.int .i64 0)),.r (.v (.int .i64 0)),.r (.v (.string .empty)),.r (.v (.int .i64 0)),.r (.v (.int .i64 0))])] [1,2] (js [jq 3 (.alloc [.r (.v (.int .i64 0)),.r (.v (.int .i64 0)),.r (.v (.int .i64 0)),.r (.v (.string .empty)),.r (.v (.int .i64 0)),.r (.v (.int .i64 0))])] [1,2,3] (js [jf 4 0 1,jk 5 4,jf 6 0 3,jp (.st 1 6 5)] [1,2,3] (js [jf 7 1 1,jk 8 7,jf 9 1 3,jp (.st 1 9 8)] [1,2,3] (js [jf 10 2 1,jk 11 10,jf 12 2 3,jp (.st 1 12 11)] [1,2,3] (js [jf 13 3 1,jk 14 13,jf 15 3 3,jp (.st 1 15 14)] [1,2,3] (js [jf 16 4 1,jl 17 2 16,jc 18 45 [17],jf 19 4 3,jp (.st 2 19 18)] [2,3] (js [jl 20 6 3,jp (.st 6 2 20)] [2] .ret)))))))
def rv66:List RV:=[.c 2 true 6]
def n9 (g:G) (t:TE) (a0:Scan):Scan:=
 lP (mQ g t (Trip.mk a0.Trip.Leg a0.Trip.Day)) fun x1=>
 (Scan.mk a0.Thing a0.At a0.Kind a0.Place x1)
theorem zJ {g:G} {t:TE} {a0:Scan} {r:Scan} (hg:g=G.real) (ht:t=TE.real) (h:n9 g t a0=r):Fn Tryz.prog 66 [.g (Scan.rs t a0)] (.g (Scan.ds t r)):=by
 obtain⟨X,hX⟩:=aH (.g (Scan.ds t r):X);rw[←hX];refine aw (rvs:=rv66) (j:=ir66) Tryz.func66 rfl (by kernel_rfl) (nb rfl) (by kernel_rfl) af ?_;intro g2 F hg2 hF;obtain rfl:g2=g:=hg2.unique.trans hg.symm;clear hg2;obtain⟨_⟩:=g2;obtain⟨_⟩:=t
 obtain⟨a0_Thing,a0_At,a0_Kind,a0_Place,⟨a0_Trip_Leg,a0_Trip_Day⟩⟩:=a0;unfold n9 at h;try dsimp only at h
 cbv;obtain⟨x1,hx1,h⟩:=ak h;obtain⟨x1_Leg,x1_Day⟩:=x1;try dsimp only at h
 refine ACall.mk _ _ rfl (hF _ _ _ (pK hg ht hx1)) (.inl rfl) (nb rfl) ?_;cbv;subst h;exact ARet.mk trivial hX.symm
def ir19:J:=js [jq 2 (.mv (.k (.c (.n 6))))] [0] (js [jm 5 0,jq 6 (.len false 5),jq 7 (.mk 6 56 [.r (.v (.int .i64 0)),.r (.v (.int .i64 0)),.r (.v (.int .i64 0)),.r (.v (.string .empty)),.r (.v (.int .i64 0)),.r (.v (.int .i64 0))] 6),jm 3 7] [0,3] (.seq (js [jm 4 (ki 0)] [0,3,4] (.bl 0 (.seq (js [jm 8 4,jm 9 0,jq 10 (.len false 9),jb 11 .lss .i 8 10] [0,3,4,11] (.cond 11 .skip (.exit 0))) (.seq (.block 1 (.reg none [jm 14 3,jm 15 4,jm 16 0,jm 17 4,ja 18 6 16 17,jl 19 6 18,jc 20 66 [19],ja 21 6 14 15,jp (.st 6 21 20)] [0,3,4])) (.reg none [jm 12 4,jb 13 .add .i 12 (ki 1),jm 4 13] [0,3,4]))))) (js [jm 22 3,jm 2 22] [2] .ret)))
def rv19:List RV:=[.t 2]
def eW (g:G) (t:TE):List Scan→Int→List Scan→Option (List Scan)
 |[],v1,w1=>
  some w1
 |z1::ls1,v1,w1=>
  lP (n9 g t (Scan.mk z1.Thing z1.At z1.Kind z1.Place (Trip.mk z1.Trip.Leg z1.Trip.Day))) fun x1=>
  gd (((0:Int)≤v1∧v1<(((g.dlen (t.d_Scan w1)):Nat):Int)))<|
  gt w1 (g.nat v1) fun x2=>
  lP (List.set w1 (g.nat v1) (Scan.mk x1.Thing x1.At x1.Kind x1.Place (Trip.mk x1.Trip.Leg x1.Trip.Day))) fun(l2:List Scan)=>
  eW g t ls1 (g.wrap .i64 (g.add v1 1)) l2
def ax (g:G) (t:TE) (a0:List Scan):Option (List Scan):=
 gd (((0:Int)≤(g.llen (t.r_Scan a0))∧56* (g.llen (t.r_Scan a0))≤70368744177664∧(g.llen (t.r_Scan a0))≤4611686018427387904))<|
 lP (List.replicate (g.nat (g.llen (t.r_Scan a0))) (Scan.mk 0 0 0 ByteArray.empty (Trip.mk 0 0))) fun(l1:List Scan)=>
 cl (eW g t a0 0 l1) fun y1=>
 some y1
theorem au {g:G} {t:TE} {a0:List Scan} {r:List Scan} (hg:g=G.real) (ht:t=TE.real) (h:ax g t a0=some r):Fn Tryz.prog 19 [.c (.s 6 (t.r_Scan a0))] (.c (.o 6 (t.d_Scan r))):=by
 obtain⟨X,hX⟩:=aH (.c (.o 6 (t.d_Scan r)):X);rw[←hX];refine aw (rvs:=rv19) (j:=ir19) Tryz.func19 rfl (by kernel_rfl) (nb rfl) (by kernel_rfl) af ?_;intro g2 F hg2 hF;obtain rfl:g2=g:=hg2.unique.trans hg.symm;clear hg2;obtain⟨wrap,lt,_,_,_,_,_,_,_,_,_,_,_,add,_,_,_,_,_,_,_,llen,_,_,dlen⟩:=g2;obtain⟨_,_,_,_,r_Scan,d_Scan⟩:=t
 unfold ax at h;try dsimp only at h
 cbv;obtain⟨hc2,h⟩:=al h;refine AStep.mk (D3 hc2) ?_;cbv;obtain⟨l1,hl1,h⟩:=ak h;try dsimp only at h
 refine ANew.mk (d_Scan l1) (dlen (d_Scan l1)) (by rw[←hl1];exact Ce hg ht _ (Scan.mk 0 0 0 ByteArray.empty (Trip.mk 0 0))) (by rw[←hl1];exact zN hg ht _ (Scan.mk 0 0 0 ByteArray.empty (Trip.mk 0 0))) ?_;cbv;obtain⟨o1,ho1,h⟩:=ac h;try dsimp only at h
 try rw[hg] at ho1
 try rw[ht] at ho1
 refine ABL.mk {p:Nat×Int×List Scan//p.1≤a0.length∧p.2.1=((p.1:Nat):Int)∧eW G.real TE.real (List.drop p.1 a0) p.2.1 p.2.2=some o1} (fun⟨⟨k1,v1,w1⟩,_⟩=>({sl:=[(0,.c (.r (.s 6 (r_Scan a0)))),(3,.c (.f 0 6 0 (dlen (d_Scan w1)))),(4,.c (.r (.v (.int .i64 v1))))],tab:=[(0,some (.arr 6 (d_Scan w1)))]}:St)) 1 (fun p=>a0.length-p.1.1) ⟨(0,0,l1),Nat.zero_le _,rfl,ho1⟩ (List Scan) (fun y1=>({sl:=[(3,.c (.f 0 6 0 (dlen (d_Scan y1))))],tab:=[(0,some (.arr 6 (d_Scan y1)))]}:St)) 1 (fun y=>o1=y) ?_ ?_ ?_
 ·refine Wk.of [(0,some 48)] rfl rfl ?_ ?_
  ·cbv;all_goals exact⟨⟨_,rfl,rfl⟩,⟨_,rfl,rfl⟩,⟨_,rfl,rfl⟩,trivial⟩
  cbv;all_goals exact⟨⟨_,rfl,rfl⟩,trivial⟩
 ·rintro⟨⟨k1,v1,w1⟩,hk1,hi1,h_1⟩ hq1;have hm1:=(hq1.1 0 _ _ rfl);try dsimp only at hk1 hi1 h_1
  clear hq1;cbv
  by_cases hc1_:k1<a0.length
  ·have hb1:lt v1 (llen (r_Scan a0))=true:=gr hg ht hi1 hc1_;have hs1:=jZ hg ht hi1 hc1_ hm1;obtain⟨z1,hz1⟩:=aL hc1_;rw[aD hz1] at h_1;rw[eW] at h_1;obtain⟨z1_Thing,z1_At,z1_Kind,z1_Place,⟨z1_Trip_Leg,z1_Trip_Day⟩⟩:=z1;try rw[←hg] at h_1
   try rw[←ht] at h_1
   try dsimp only at h_1
   rw[hb1];cbv;refine AStep.mk (eO hi1) ?_;cbv;refine AGet.mk _ (bS hg ht hi1 hz1) ?_;cbv;obtain⟨x1,hx1,h_1⟩:=ak h_1;obtain⟨x1_Thing,x1_At,x1_Kind,x1_Place,⟨x1_Trip_Leg,x1_Trip_Day⟩⟩:=x1;try dsimp only at h_1
   refine ACall.mk _ _ rfl (hF _ _ _ (zJ hg ht hx1)) (.inl rfl) (nb rfl) ?_;cbv;obtain⟨hc1,h_1⟩:=al h_1;refine AStep.mk hc1 ?_;cbv;obtain⟨x2,hx2,h_1⟩:=aE h_1;obtain⟨x2_Thing,x2_At,x2_Kind,x2_Place,⟨x2_Trip_Leg,x2_Trip_Day⟩⟩:=x2;try dsimp only at h_1
   refine AGet.mk _ (aG hg ht hx2) ?_;cbv;obtain⟨l2,hl2,h_1⟩:=ak h_1;try dsimp only at h_1
   refine ANew.mk (d_Scan l2) _ (by rw[←hl2];exact j7 hg ht _ _ (Scan.mk x1_Thing x1_At x1_Kind x1_Place (Trip.mk x1_Trip_Leg x1_Trip_Day))) rfl ?_;have hnl2:(dlen (d_Scan w1))=(d_Scan l2).length:=(by rw[←hl2,iS ht];exact(ah hg ht _));cbv;try rw[hg] at h_1
   try rw[ht] at h_1
   refine⟨⟨(k1+1,(wrap .i64 (add v1 1)),l2),hc1_,hs1,h_1⟩,Wk.of [(0,some 0)] rfl rfl ?_ ?_,a8 hc1_⟩
   ·cbv;all_goals try rw[show(dlen (d_Scan w1))=(dlen (d_Scan l2)) from(hnl2).trans (ah hg ht _).symm]
    all_goals exact⟨⟨_,rfl,rfl⟩,⟨_,rfl,rfl⟩,⟨_,rfl,rfl⟩,trivial⟩
   cbv;all_goals try rw[show(dlen (d_Scan w1))=(dlen (d_Scan l2)) from(hnl2).trans (ah hg ht _).symm]
   all_goals exact⟨⟨_,rfl,rfl⟩,trivial⟩
  have hb1:lt v1 (llen (r_Scan a0))=false:=fz hg ht hi1 hc1_;rw[List.drop_of_length_le (Nat.le_of_not_lt hc1_)] at h_1;rw[eW] at h_1;try rw[←hg] at h_1
  try rw[←ht] at h_1
  try dsimp only at h_1
  rw[hb1];cbv;refine⟨w1,Wk.of [(0,some 0)] rfl rfl ?_ ?_,(Option.some.inj h_1).symm⟩
  ·cbv;all_goals exact⟨⟨_,rfl,rfl⟩,trivial⟩
  cbv;all_goals exact⟨⟨_,rfl,rfl⟩,trivial⟩
 rintro y1 hy1;replace hy1:=hy1.symm;subst hy1;try dsimp only[lr,lrL,lrp,aR] at h
 cbv;obtain rfl:=Option.some.inj h;exact ARet.mk ⟨rfl,(ah hg ht _)⟩ hX.symm
def ir81:J:=js [jm 4 (ki 0)] [0,1] (.seq (js [jm 7 0,jq 8 (.len false 7),jm 9 (ki 0)] [1,7,8,9] (.bl 0 (js [jb 10 .lss .i 9 8] [1,7,8,9,10] (.seq (.cond 10 .skip (.exit 0)) (.seq (.block 1 (js [jm 11 9,ja 12 1 7 9,jk 13 12,jm 5 11,jm 6 13] [1,5,6,7,8,9] (js [jm 14 6,jm 15 1,jb 16 .eql .s 14 15] [1,5,7,8,9,16] (.cond 16 (js [jm 17 5,jm 4 17] [4] .ret) .skip)))) (.reg none [jb 18 .add .i 9 (ki 1),jm 9 18] [1,7,8,9])))))) (js [jq 4 (.mv (.k (V.i (-1))))] [4] .ret))
def rv81:List RV:=[.t 4]
def cU (g:G) (t:TE) (a1:ByteArray):List ByteArray→Int→LR Int Unit
 |[],v1=>
  (LR.out ())
 |z1::ls1,v1=>
  br (g.seq z1 a1)
  (
   (LR.ret v1))
  (
   cU g t a1 ls1 (g.wrap .i64 (g.add v1 1)))
def eE (g:G) (t:TE) (a0:List ByteArray) (a1:ByteArray):Int:=
 lP (cU g t a1 a0 0) fun o1=>lrp o1 fun y1=>
 (-1)
theorem fQ {g:G} {t:TE} {a0:List ByteArray} {a1:ByteArray} {r:Int} (hg:g=G.real) (ht:t=TE.real) (h:eE g t a0 a1=r):Fn Tryz.prog 81 [.c (.s 1 (t.r_S a0)),.c (.v (.string a1))] (.c (.r (.v (.int .i64 r)))):=by
 obtain⟨X,hX⟩:=aH (.c (.r (.v (.int .i64 r))):X);rw[←hX];refine aw (rvs:=rv81) (j:=ir81) Tryz.func81 rfl (by kernel_rfl) (nb rfl) (by kernel_rfl) af ?_;intro g2 F hg2 hF;obtain rfl:g2=g:=hg2.unique.trans hg.symm;clear hg2;obtain⟨wrap,lt,_,_,_,_,_,_,_,_,_,_,_,add,_,_,_,seq,_,_,_,llen⟩:=g2;obtain⟨_,_,_,_,_,_,r_S⟩:=t
 unfold eE at h;try dsimp only at h
 cbv;obtain⟨o1,ho1,h⟩:=ak h;try dsimp only at h
 try rw[hg] at ho1
 try rw[ht] at ho1
 refine ABL.mk {p:Nat×Int//p.1≤a0.length∧p.2=((p.1:Nat):Int)∧cU G.real TE.real a1 (List.drop p.1 a0) p.2=o1} (fun⟨⟨k1,v1⟩,_⟩=>({sl:=[(1,.c (.r (.v (.string a1)))),(7,.c (.r (.s 1 (r_S a0)))),(8,.c (.r (.v (.int .i64 (llen (r_S a0)))))),(9,.c (.r (.v (.int .i64 v1))))],tab:=[]}:St)) 0 (fun p=>a0.length-p.1.1) ⟨(0,0),Nat.zero_le _,rfl,ho1⟩ (Unit) (fun _=>({sl:=[],tab:=[]}:St)) 0 (fun y=>o1=LR.out y) ?_ ?_ ?_
 ·refine Wk.of [] rfl rfl ?_ ?_
  ·cbv;all_goals exact⟨⟨_,rfl,rfl⟩,⟨_,rfl,rfl⟩,⟨_,rfl,rfl⟩,⟨_,rfl,rfl⟩,trivial⟩
  cbv;all_goals exact trivial
 ·rintro⟨⟨k1,v1⟩,hk1,hi1,h_1⟩ hq1;have hm1:=(hq1.1 7 _ _ rfl);try dsimp only at hk1 hi1 h_1
  clear hq1;cbv
  by_cases hc1_:k1<a0.length
  ·have hb1:lt v1 (llen (r_S a0))=true:=lK hg ht hi1 hc1_;have hs1:=qe hg ht hi1 hc1_ hm1;obtain⟨z1,hz1⟩:=aL hc1_;rw[aD hz1] at h_1;rw[cU] at h_1;try rw[←hg] at h_1
   try rw[←ht] at h_1
   try dsimp only at h_1
   rw[hb1];cbv;refine AStep.mk (eO hi1) ?_;cbv;refine AGet.mk _ (qh hg ht hi1 hz1) ?_;cbv
   cases hb2:(seq z1 a1)
   rotate_left
   ·rw[ab hb2] at h_1;cbv;subst h_1;try dsimp only[lr,lrL,lrp,aR] at h
    subst h;exact ARet.mk trivial hX.symm
   rw[aa hb2] at h_1;cbv;try rw[hg] at h_1
   try rw[ht] at h_1
   refine⟨⟨(k1+1,(wrap .i64 (add v1 1))),hc1_,hs1,h_1⟩,Wk.of [] rfl rfl ?_ ?_,a8 hc1_⟩
   ·cbv;all_goals exact⟨⟨_,rfl,rfl⟩,⟨_,rfl,rfl⟩,⟨_,rfl,rfl⟩,⟨_,rfl,rfl⟩,trivial⟩
   cbv;all_goals exact trivial
  have hb1:lt v1 (llen (r_S a0))=false:=kG hg ht hi1 hc1_;rw[List.drop_of_length_le (Nat.le_of_not_lt hc1_)] at h_1;rw[cU] at h_1;try rw[←hg] at h_1
  try rw[←ht] at h_1
  try dsimp only at h_1
  rw[hb1];cbv;refine⟨(),Wk.of [] rfl rfl ?_ ?_,h_1.symm⟩
  ·cbv;all_goals exact trivial
  cbv;all_goals exact trivial
 rintro _ hy1;replace hy1:=hy1.symm;subst hy1;try dsimp only[lr,lrL,lrp,aR] at h
 cbv;subst h;exact ARet.mk trivial hX.symm
end Go.Vs
namespace Go.Proofs
open Go.RowKit Go.Sort
set_option maxHeartbeats 2000000
set_option maxRecDepth 100000
def Tryz.lays192_ren : Go.Shelf.Ren := ⟨fun | 192 => 120 | 190 => 141 | 125 => 151 | 258 => 150 | 128 => 169 | 129 => 170 | 302 => 160 | 303 => 161 | 304 => 162 | 305 => 163 | 306 => 164 | 307 => 165 | 308 => 166 | 309 => 167 | 310 => 168 | 333 => 174 | 329 => 175 | 330 => 176 | 334 => 177 | 335 => 178 | 336 => 179 | 344 => 180 | n => n, fun | 31 => 62 | 0 => 0 | 9 => 9 | 3 => 3 | 46 => 145 | 51 => 167 | 53 => 169 | 4 => 4 | 183 => 159 | 182 => 158 | 131 => 164 | 5 => 5 | 218 => 172 | 222 => 176 | 228 => 178 | 229 => 179 | n => n, fun | n => n⟩
theorem Tryz.lays192 : Go.Proofs.Lays.n192 Tryz.prog Tryz.lays192_ren := {
  mixed := by kernel_rfl
  f125 := Tryz.func151.trans (congrArg some (by kernel_rfl))
  f128 := Tryz.func169.trans (congrArg some (by kernel_rfl))
  f129 := Tryz.func170.trans (congrArg some (by kernel_rfl))
  f190 := Tryz.func141.trans (congrArg some (by kernel_rfl))
  f192 := Tryz.func120.trans (congrArg some (by kernel_rfl))
  f258 := Tryz.func150.trans (congrArg some (by kernel_rfl))
  f302 := Tryz.func160.trans (congrArg some (by kernel_rfl))
  f303 := Tryz.func161.trans (congrArg some (by kernel_rfl))
  f304 := Tryz.func162.trans (congrArg some (by kernel_rfl))
  f305 := Tryz.func163.trans (congrArg some (by kernel_rfl))
  f306 := Tryz.func164.trans (congrArg some (by kernel_rfl))
  f307 := Tryz.func165.trans (congrArg some (by kernel_rfl))
  f308 := Tryz.func166.trans (congrArg some (by kernel_rfl))
  f309 := Tryz.func167.trans (congrArg some (by kernel_rfl))
  f310 := Tryz.func168.trans (congrArg some (by kernel_rfl))
  f329 := Tryz.func175.trans (congrArg some (by kernel_rfl))
  f330 := Tryz.func176.trans (congrArg some (by kernel_rfl))
  f333 := Tryz.func174.trans (congrArg some (by kernel_rfl))
  f334 := Tryz.func177.trans (congrArg some (by kernel_rfl))
  f335 := Tryz.func178.trans (congrArg some (by kernel_rfl))
  f336 := Tryz.func179.trans (congrArg some (by kernel_rfl))
  f344 := Tryz.func180.trans (congrArg some (by kernel_rfl))
  t0 := Tryz.underlying0
  a0 := Tryz.isAgg0
  z0 := Tryz.sizeOf0
  v0 := Tryz.zeroValue0
  t3 := Tryz.underlying3
  a3 := Tryz.isAgg3
  z3 := Tryz.sizeOf3
  v3 := Tryz.zeroValue3
  t4 := Tryz.underlying4
  a4 := Tryz.isAgg4
  z4 := Tryz.sizeOf4
  v4 := Tryz.zeroValue4
  t5 := Tryz.underlying5
  a5 := Tryz.isAgg5
  z5 := Tryz.sizeOf5
  v5 := Tryz.zeroValue5
  t9 := Tryz.underlying9
  a9 := Tryz.isAgg9
  z9 := Tryz.sizeOf9
  v9 := Tryz.zeroValue9
  t31 := Tryz.underlying62
  a31 := Tryz.isAgg62
  z31 := Tryz.sizeOf62
  v31 := Tryz.zeroValue62
  t46 := Tryz.underlying145
  a46 := Tryz.isAgg145
  z46 := Tryz.sizeOf145
  v46 := Tryz.zeroValue145
  t51 := Tryz.underlying167
  a51 := Tryz.isAgg167
  z51 := Tryz.sizeOf167
  v51 := Tryz.zeroValue167
  t53 := Tryz.underlying169
  a53 := Tryz.isAgg169
  z53 := Tryz.sizeOf169
  v53 := Tryz.zeroValue169
  t131 := Tryz.underlying164
  a131 := Tryz.isAgg164
  z131 := Tryz.sizeOf164
  v131 := Tryz.zeroValue164
  t182 := Tryz.underlying158
  a182 := Tryz.isAgg158
  z182 := Tryz.sizeOf158
  v182 := Tryz.zeroValue158
  t183 := Tryz.underlying159
  a183 := Tryz.isAgg159
  z183 := Tryz.sizeOf159
  v183 := Tryz.zeroValue159
  t218 := Tryz.underlying172
  a218 := Tryz.isAgg172
  z218 := Tryz.sizeOf172
  v218 := Tryz.zeroValue172
  t222 := Tryz.underlying176
  a222 := Tryz.isAgg176
  z222 := Tryz.sizeOf176
  v222 := Tryz.zeroValue176
  t228 := Tryz.underlying178
  a228 := Tryz.isAgg178
  z228 := Tryz.sizeOf178
  v228 := Tryz.zeroValue178
  t229 := Tryz.underlying179
  a229 := Tryz.isAgg179
  z229 := Tryz.sizeOf179
  v229 := Tryz.zeroValue179 }
theorem Tryz.insS_nil (p:Option Addr) (cap:Nat) (w:World):
 Calls Tryz.prog 160 #[.slice p 0 cap,.int .i64 0,.int .i64 0] w fun e w'=>e=.returned (.tuple #[])∧w'=w:=by
 go_enter Tryz.func160,Tryz.ntmps160
 go_wp2
 refine wp_loop_rounds 1 ?_
 rw[rounds_succ]
 go_wp2
 go_end0
 exact⟨rfl,rfl⟩
theorem Tryz.pdqS_nil (p:Option Addr) (cap:Nat) (w:World):
 Calls Tryz.prog 150 #[.slice p 0 cap,.int .i64 0,.int .i64 0,.int .i64 0] w fun e w'=>e=.returned (.tuple #[])∧w'=w:=by
 go_enter Tryz.func150,Tryz.ntmps150
 go_wp2
 refine wp_loop_rounds 1 ?_
 rw[rounds_succ]
 go_wp2_with (first|(go_at_call 160;refine(Tryz.insS_nil p cap _).mono ?_;rintro e w' ⟨rfl,rfl⟩))
 refine bodyPost_ret (results_none rfl _ _ _) rfl ?_
 exact⟨rfl,rfl⟩
theorem Tryz.sortS_nil (p:Option Addr) (cap:Nat) (w:World):
 Calls Tryz.prog 141 #[.slice p 0 cap] w fun e w'=>e=.returned (.tuple #[])∧w'=w:=by
 have hLen:∀w,Calls Tryz.prog 151 #[.int .u64 0] w fun e w'=>e=.returned (.int .i64 0)∧w'=w:=fun w=>calls_of_every_depth fun D=>AnyS.bits_LenInS {Tryz.lays192 with} D 0 w (by omega) (by omega)
 go_enter Tryz.func141,Tryz.ntmps141
 go_wp2_with (first
  |(go_at_call 151;refine(hLen _).mono ?_;rintro e w' ⟨rfl,rfl⟩)
  |(go_at_call 150;refine(Tryz.pdqS_nil p cap _).mono ?_;rintro e w' ⟨rfl,rfl⟩))
 go_end0
 exact⟨rfl,rfl⟩
theorem Tryz.strs_nil (p:Option Addr) (cap:Nat) (w:World):
 Calls Tryz.prog 120 #[.slice p 0 cap] w fun e w'=>e=.returned (.tuple #[])∧w'=w:=by
 go_enter Tryz.func120,Tryz.ntmps120
 go_wp2_with (first|(go_at_call 141;refine(Tryz.sortS_nil p cap _).mono ?_;rintro e w' ⟨rfl,rfl⟩))
 go_end0
 exact⟨rfl,rfl⟩
end Go.Proofs
namespace Go.Vs
open Go.Proofs Go.RowKit
set_option linter.unusedVariables false
def lD (g:G) (t:TE) (a0:List ByteArray):Option (List ByteArray):=gd (a0.length<4611686018427387904)<|some (pJ a0)
theorem rh {g:G} {t:TE} {a0 r:List ByteArray} (hg:g=G.real) (ht:t=TE.real) (h:lD g t a0=some r):FnM Tryz.prog 120 (.m (.o 1 (t.d_S a0))) [] (.u []) (.m (.o 1 (t.d_S r))):=by
 obtain⟨hl,h⟩:=al h;cases h
 subst ht;exact CO a0 hl (fun blk cap w hH hb=>calls_of_every_depth fun D=>AnyS.sort_Strings_in Tryz.lays192 D blk 0 cap (a0.map bOf) w hH hb (by simpa using hl)) (fun e w=>Tryz.strs_nil none 0 w)
end Go.Vs
