/- Part of the proofs of this seat's laws: Lai. No condition. -/
import Derived.Test.YticpmdigfdpmfaaGreatTy
import Derived.Test.YticpmdigfdpmfaaGreatTIRall
import Derived.Test.YticpmdigfdpmfaaGreatLac
import Derived.Test.YticpmdigfdpmfaaGreatLaa
import Derived.Test.YticpmdigfdpmfaaGreatLab
import Derived.Test.YticpmdigfdpmfaaGreatLaf
set_option linter.unusedVariables false
set_option linter.unusedSimpArgs false
set_option linter.unusedSectionVars false
namespace Go.Vs
set_option maxRecDepth 100000
def ir27:J:=js [jq 3 (.box 1),jm 4 kf] [0,3] (.seq (js [jm 5 (ki 0)] [0,3,5] (.bl 0 (.seq (js [jm 6 5,jm 7 0,jq 8 (.len false 7),jb 9 .lss .i 6 8] [0,3,5,9] (.cond 9 .skip (.exit 0))) (.seq (.block 1 (.seq (.reg (some [[],[],[0,1],[0,1,2],[],[0,1,2,3,4]]) [jm 12 0,jm 13 5,ja 14 2 12 13,jl 15 2 14,jl 16 2 3,jq 17 (.eqs false [.i,.i] 15 16)] [0,3,5,17]) (.cond 17 (js [jm 4 kt] [4] .ret) .skip))) (.reg none [jm 10 5,jb 11 .add .i 10 (ki 1),jm 5 11] [0,3,5]))))) (js [jm 4 kf] [4] .ret))
def rv27:List RV:=[.t 4]
open Go.Proofs Go.IntWalk
set_option linter.unusedVariables false
set_option maxHeartbeats 4000000
def fz (g:G) (t:TE) (a1:Trip):List Trip→LR Bool Unit
 |[]=>
  (LR.out ())
 |z1::ls1=>
  br (g.all [(g.eq z1.Leg a1.Leg),(g.eq z1.Day a1.Day)])
  (
   (LR.ret true))
  (
   fz g t a1 ls1)
def nI (g:G) (t:TE) (a0:List Trip) (a1:Trip):Bool:=
 lP (fz g t a1 a0) fun o1=>lrp o1 fun y1=>
 false
theorem Ai {g:G} {t:TE} {a0:List Trip} {a1:Trip} {r:Bool} (hg:g=G.real) (ht:t=TE.real) (h:nI g t a0 a1=r):Fn Tryz.prog 27 [.c (.s 2 (t.r_Trip a0)),.g (Trip.rs t a1)] (.c (.r (.v (.bool r)))):=by
 obtain⟨X,hX⟩:=aC (.c (.r (.v (.bool r))):X);rw[←hX];refine ay (rvs:=rv27) (j:=ir27) Tryz.func27 rfl (by kernel_rfl) (nb rfl) (by kernel_rfl) ac ?_;intro g2 F hg2 hF;obtain rfl:g2=g:=hg2.unique.trans hg.symm;clear hg2;obtain⟨wrap,lt,_,eq,_,_,_,_,_,_,_,_,_,add,_,_,_,_,_,_,_,llen,_,_,_,_,_,_,_,_,_,_,_,all⟩:=g2;obtain⟨_,_,_,_,_,_,_,_,r_Trip⟩:=t
 obtain⟨a1_Leg,a1_Day⟩:=a1;unfold nI at h;try dsimp only at h
 cbv;obtain⟨o1,ho1,h⟩:=ah h;try dsimp only at h
 try rw[hg] at ho1
 try rw[ht] at ho1
 refine ABL.mk {p:Nat×Int//p.1≤a0.length∧p.2=((p.1:Nat):Int)∧fz G.real TE.real (Trip.mk a1_Leg a1_Day) (List.drop p.1 a0)=o1} (fun⟨⟨k1,v1⟩,_⟩=>({sl:=[(0,.c (.r (.s 2 (r_Trip a0)))),(3,.c (.p 0 2 0 0)),(5,.c (.r (.v (.int .i64 v1))))],tab:=[(0,some (.foc 2 [] [.r (.v (.int .i64 a1_Leg)),.r (.v (.int .i64 a1_Day))] []))]}:St)) 1 (fun p=>a0.length-p.1.1) ⟨(0,0),Nat.zero_le _,rfl,ho1⟩ (Unit) (fun _=>({sl:=[],tab:=[]}:St)) 0 (fun y=>o1=LR.out y) ?_ ?_ ?_
 ·refine Wk.of [(0,some 0)] rfl rfl ?_ ?_
  ·cbv;all_goals exact⟨⟨_,rfl,rfl⟩,⟨_,rfl,rfl⟩,⟨_,rfl,rfl⟩,trivial⟩
  cbv;all_goals exact⟨⟨_,rfl,_,rfl,rfl,rfl,trivial⟩,trivial⟩
 ·rintro⟨⟨k1,v1⟩,hk1,hi1,h_1⟩ hq1;have hm1:=(hq1.1 0 _ _ rfl);try dsimp only at hk1 hi1 h_1
  clear hq1;cbv
  by_cases hc1_:k1<a0.length
  ·have hb1:lt v1 (llen (r_Trip a0))=true:=gW hg ht hi1 hc1_;have hs1:=kj hg ht hi1 hc1_ hm1;obtain⟨z1,hz1⟩:=aG hc1_;rw[ax hz1] at h_1;rw[fz] at h_1;obtain⟨z1_Leg,z1_Day⟩:=z1;try rw[←hg] at h_1
   try rw[←ht] at h_1
   try dsimp only at h_1
   rw[hb1];cbv;refine AStep.mk (ez hi1) ?_;cbv;refine AGet.mk _ (cW hg ht hi1 hz1) ?_;cbv
   cases hb2:(all [(eq z1_Leg a1_Leg),(eq z1_Day a1_Day)])
   rotate_left
   ·rw[ab hb2] at h_1;cbv;subst h_1;try dsimp only[lr,lrL,lrp,aZ] at h
    subst h;exact ARet.mk trivial hX.symm
   rw[aa hb2] at h_1;cbv;try rw[hg] at h_1
   try rw[ht] at h_1
   refine⟨⟨(k1+1,(wrap .i64 (add v1 1))),hc1_,hs1,h_1⟩,Wk.of [(0,some 0)] rfl rfl ?_ ?_,aK hc1_⟩
   ·cbv;all_goals exact⟨⟨_,rfl,rfl⟩,⟨_,rfl,rfl⟩,⟨_,rfl,rfl⟩,trivial⟩
   cbv;all_goals exact⟨⟨_,rfl,_,rfl,rfl,rfl,trivial⟩,trivial⟩
  have hb1:lt v1 (llen (r_Trip a0))=false:=gk hg ht hi1 hc1_;rw[List.drop_of_length_le (Nat.le_of_not_lt hc1_)] at h_1;rw[fz] at h_1;try rw[←hg] at h_1
  try rw[←ht] at h_1
  try dsimp only at h_1
  rw[hb1];cbv;refine⟨(),Wk.of [] rfl rfl ?_ ?_,h_1.symm⟩
  ·cbv;all_goals exact trivial
  cbv;all_goals exact trivial
 rintro _ hy1;replace hy1:=hy1.symm;subst hy1;try dsimp only[lr,lrL,lrp,aZ] at h
 cbv;subst h;exact ARet.mk trivial hX.symm
def ir43:J:=js [jm 4 (ki 0)] [0,1] (.seq (js [jm 5 (ki 0)] [0,1,5] (.bl 0 (.seq (js [jm 6 5,jm 7 0,jq 8 (.len false 7),jb 9 .lss .i 6 8] [0,1,5,9] (.cond 9 .skip (.exit 0))) (.seq (.block 1 (js [jm 12 0,jm 13 5,ja 14 1 12 13,jk 15 14,jm 16 1,jb 17 .eql .s 15 16] [0,1,5,17] (.cond 17 (js [jm 18 5,jm 4 18] [4] .ret) .skip))) (.reg none [jm 10 5,jb 11 .add .i 10 (ki 1),jm 5 11] [0,1,5]))))) (js [jq 4 (.mv (.k (V.i (-1))))] [4] .ret))
def rv43:List RV:=[.t 4]
def fA (g:G) (t:TE) (a1:ByteArray):List ByteArray→Int→LR Int Unit
 |[],v1=>
  (LR.out ())
 |z1::ls1,v1=>
  br (g.seq z1 a1)
  (
   (LR.ret v1))
  (
   fA g t a1 ls1 (g.wrap .i64 (g.add v1 1)))
def nA (g:G) (t:TE) (a0:List ByteArray) (a1:ByteArray):Int:=
 lP (fA g t a1 a0 0) fun o1=>lrp o1 fun y1=>
 (-1)
theorem A7 {g:G} {t:TE} {a0:List ByteArray} {a1:ByteArray} {r:Int} (hg:g=G.real) (ht:t=TE.real) (h:nA g t a0 a1=r):Fn Tryz.prog 43 [.c (.s 1 (t.r_S a0)),.c (.v (.string a1))] (.c (.r (.v (.int .i64 r)))):=by
 obtain⟨X,hX⟩:=aC (.c (.r (.v (.int .i64 r))):X);rw[←hX];refine ay (rvs:=rv43) (j:=ir43) Tryz.func43 rfl (by kernel_rfl) (nb rfl) (by kernel_rfl) ac ?_;intro g2 F hg2 hF;obtain rfl:g2=g:=hg2.unique.trans hg.symm;clear hg2;obtain⟨wrap,lt,_,_,_,_,_,_,_,_,_,_,_,add,_,_,_,seq,_,_,_,llen⟩:=g2;obtain⟨_,_,_,_,_,_,_,_,_,_,_,_,r_S⟩:=t
 unfold nA at h;try dsimp only at h
 cbv;obtain⟨o1,ho1,h⟩:=ah h;try dsimp only at h
 try rw[hg] at ho1
 try rw[ht] at ho1
 refine ABL.mk {p:Nat×Int//p.1≤a0.length∧p.2=((p.1:Nat):Int)∧fA G.real TE.real a1 (List.drop p.1 a0) p.2=o1} (fun⟨⟨k1,v1⟩,_⟩=>({sl:=[(0,.c (.r (.s 1 (r_S a0)))),(1,.c (.r (.v (.string a1)))),(5,.c (.r (.v (.int .i64 v1))))],tab:=[]}:St)) 0 (fun p=>a0.length-p.1.1) ⟨(0,0),Nat.zero_le _,rfl,ho1⟩ (Unit) (fun _=>({sl:=[],tab:=[]}:St)) 0 (fun y=>o1=LR.out y) ?_ ?_ ?_
 ·refine Wk.of [] rfl rfl ?_ ?_
  ·cbv;all_goals exact⟨⟨_,rfl,rfl⟩,⟨_,rfl,rfl⟩,⟨_,rfl,rfl⟩,trivial⟩
  cbv;all_goals exact trivial
 ·rintro⟨⟨k1,v1⟩,hk1,hi1,h_1⟩ hq1;have hm1:=(hq1.1 0 _ _ rfl);try dsimp only at hk1 hi1 h_1
  clear hq1;cbv
  by_cases hc1_:k1<a0.length
  ·have hb1:lt v1 (llen (r_S a0))=true:=kn hg ht hi1 hc1_;have hs1:=ql hg ht hi1 hc1_ hm1;obtain⟨z1,hz1⟩:=aG hc1_;rw[ax hz1] at h_1;rw[fA] at h_1;try rw[←hg] at h_1
   try rw[←ht] at h_1
   try dsimp only at h_1
   rw[hb1];cbv;refine AStep.mk (ez hi1) ?_;cbv;refine AGet.mk _ (so hg ht hi1 hz1) ?_;cbv
   cases hb2:(seq z1 a1)
   rotate_left
   ·rw[ab hb2] at h_1;cbv;subst h_1;try dsimp only[lr,lrL,lrp,aZ] at h
    subst h;exact ARet.mk trivial hX.symm
   rw[aa hb2] at h_1;cbv;try rw[hg] at h_1
   try rw[ht] at h_1
   refine⟨⟨(k1+1,(wrap .i64 (add v1 1))),hc1_,hs1,h_1⟩,Wk.of [] rfl rfl ?_ ?_,aK hc1_⟩
   ·cbv;all_goals exact⟨⟨_,rfl,rfl⟩,⟨_,rfl,rfl⟩,⟨_,rfl,rfl⟩,trivial⟩
   cbv;all_goals exact trivial
  have hb1:lt v1 (llen (r_S a0))=false:=i7 hg ht hi1 hc1_;rw[List.drop_of_length_le (Nat.le_of_not_lt hc1_)] at h_1;rw[fA] at h_1;try rw[←hg] at h_1
  try rw[←ht] at h_1
  try dsimp only at h_1
  rw[hb1];cbv;refine⟨(),Wk.of [] rfl rfl ?_ ?_,h_1.symm⟩
  ·cbv;all_goals exact trivial
  cbv;all_goals exact trivial
 rintro _ hy1;replace hy1:=hy1.symm;subst hy1;try dsimp only[lr,lrL,lrp,aZ] at h
 cbv;subst h;exact ARet.mk trivial hX.symm
def ir44:J:=js [jq 5 (.box 0),jq 6 (.box 1),jm 10 kf] [2,3,4,5,6] (js [jm 13 3,jm 11 13] [2,4,5,6,11] (.seq (js [jm 12 (ki 0)] [2,4,5,6,11,12] (.bl 0 (.seq (js [jm 14 12,jm 15 2,jq 16 (.len false 15),jb 17 .lss .i 14 16] [2,4,5,6,11,12,17] (.cond 17 .skip (.exit 0))) (.seq (.block 1 (.seq (.seq (.reg (some [[],[],[],[1,2],[1,2,3],[0,1,2,3,4],[],[0,1,2,3,4,5,6]]) [jl 20 3 5,jm 21 2,jm 22 12,ja 23 2 21 22,jl 24 2 23,jc 25 62 [20,24],jm 26 4,jb 27 .gtr .i 25 26] [2,4,5,6,11,12,27]) (.cond 27 (.exit 0) .skip)) (.seq (.seq (.reg (some [[],[],[],[],[2,3],[2,3,4],[1,2,3,4,5],[0,1,2,3,4,5,6]]) [jm 28 4,jl 29 3 5,jm 30 2,jm 31 12,ja 32 2 30 31,jl 33 2 32,jc 34 63 [29,33],jb 35 .lss .i 28 34] [2,4,5,6,12,35]) (.cond 35 (.seq (.reg (some [[],[0],[],[],[2,3],[2,3,4],[0,1,2,3,4,5],[0,1,2,3,4,5,6]]) [jf 36 1 6,jk 37 36,jm 38 2,jm 39 12,ja 40 2 38 39,jl 41 2 40,jc 42 27 [37,41],jm 10 42] [10]) .ret) .skip)) (.reg (some [[],[0],[],[],[2,3],[2,3,4],[2,3,4,5],[0,1,2,3,4,5,6],[0,1,2,3,4,5,6,7],[0,1,2,3,4,5,6,7,8],[0,1,2,3,4,5,6,7,8,9]]) [jf 43 0 5,jk 44 43,jm 45 2,jm 46 12,ja 47 2 45 46,jf 48 0 47,jk 49 48,ja 50 6 44 49,jf 51 1 50,jk 52 51,jm 11 52] [2,4,5,6,11,12])))) (.reg none [jm 18 12,jb 19 .add .i 18 (ki 1),jm 12 19] [2,4,5,6,11,12]))))) (js [jf 53 0 6,jk 54 53,jm 55 11,jc 56 43 [54,55],jb 57 .geq .i 56 (ki 0),jm 10 57] [10] .ret)))
def rv44:List RV:=[.t 10]
def bZ (g:G) (t:TE) (a0:Network) (a1:Belief) (a4:Int):List Trip→ByteArray→Option (LR Bool ByteArray)
 |[],v1=>
  some (LR.out v1)
 |z1::ls1,v1=>
  cl (gz g t a0 z1) fun x1=>
  br (g.lt a4 x1)
  (
   some (LR.out v1))
  (
   cl (jN g t a0 z1) fun x2=>
   br (g.lt a4 x2)
   (
    lP (nI g t a1.Rides z1) fun x3=>
    some (LR.ret x3))
   (
    gd (((0:Int)≤z1.Leg))<|
    gt a0.Legs (g.nat z1.Leg) fun x4=>
    bZ g t a0 a1 a4 ls1 x4.To))
def ma (g:G) (t:TE) (a0:Network) (a1:Belief) (a2:List Trip) (a3:ByteArray) (a4:Int):Option Bool:=
 cl (bZ g t a0 a1 a4 a2 a3) fun o1=>lr o1 fun y1=>
 lP (nA g t a1.Places y1) fun x5=>
 some (g.le 0 x5)
theorem AR {g:G} {t:TE} {a0:Network} {a1:Belief} {a2:List Trip} {a3:ByteArray} {a4:Int} {r:Bool} (hg:g=G.real) (ht:t=TE.real) (h:ma g t a0 a1 a2 a3 a4=some r):Fn Tryz.prog 44 [.g (Network.rs t a0),.g (Belief.rs t a1),.c (.s 2 (t.r_Trip a2)),.c (.v (.string a3)),.c (.v (.int .i64 a4))] (.c (.r (.v (.bool r)))):=by
 obtain⟨X,hX⟩:=aC (.c (.r (.v (.bool r))):X);rw[←hX];refine ay (rvs:=rv44) (j:=ir44) Tryz.func44 rfl (by kernel_rfl) (nb rfl) (by kernel_rfl) ac ?_;intro g2 F hg2 hF;obtain rfl:g2=g:=hg2.unique.trans hg.symm;clear hg2;obtain⟨wrap,lt,_,_,_,_,_,_,_,_,_,_,_,add,_,_,_,_,_,_,_,llen⟩:=g2;obtain⟨_,_,_,_,r_Leg,_,r_I64,_,r_Trip,_,_,_,r_S⟩:=t
 obtain⟨a0_Legs,a0_Off,a0_Change⟩:=a0;obtain⟨a1_Places,a1_Rides⟩:=a1;unfold ma at h;try dsimp only at h
 cbv;obtain⟨o1,ho1,h⟩:=af h;try dsimp only at h
 try rw[hg] at ho1
 try rw[ht] at ho1
 refine ABL.mk {p:Nat×Int×ByteArray//p.1≤a2.length∧p.2.1=((p.1:Nat):Int)∧bZ G.real TE.real (Network.mk a0_Legs a0_Off a0_Change) (Belief.mk a1_Places a1_Rides) a4 (List.drop p.1 a2) p.2.2=some o1} (fun⟨⟨k1,v2,v1⟩,_⟩=>({sl:=[(2,.c (.r (.s 2 (r_Trip a2)))),(4,.c (.r (.v (.int .i64 a4)))),(5,.c (.p 0 3 0 0)),(6,.c (.p 1 2 0 0)),(11,.c (.r (.v (.string v1)))),(12,.c (.r (.v (.int .i64 v2))))],tab:=[(0,some (.foc 3 [] [.r (.s 6 (r_Leg a0_Legs)),.r (.s 1 (r_I64 a0_Off)),.r (.v (.int .i64 a0_Change))] [])),(1,some (.foc 2 [] [.r (.s 1 (r_S a1_Places)),.r (.s 2 (r_Trip a1_Rides))] []))]}:St)) 2 (fun p=>a2.length-p.1.1) ⟨(0,0,a3),Nat.zero_le _,rfl,ho1⟩ (ByteArray) (fun y1=>({sl:=[(6,.c (.p 0 2 0 0)),(11,.c (.r (.v (.string y1))))],tab:=[(0,some (.foc 2 [] [.r (.s 1 (r_S a1_Places)),.r (.s 2 (r_Trip a1_Rides))] []))]}:St)) 1 (fun y=>o1=LR.out y) ?_ ?_ ?_
 ·refine Wk.of [(0,some 0),(1,some 16)] rfl rfl ?_ ?_
  ·cbv;all_goals exact⟨⟨_,rfl,rfl⟩,⟨_,rfl,rfl⟩,⟨_,rfl,rfl⟩,⟨_,rfl,rfl⟩,⟨_,rfl,rfl⟩,⟨_,rfl,rfl⟩,trivial⟩
  cbv;all_goals exact⟨⟨_,rfl,_,rfl,rfl,rfl,rfl,trivial⟩,⟨_,rfl,_,rfl,rfl,rfl,trivial⟩,trivial⟩
 ·rintro⟨⟨k1,v2,v1⟩,hk1,hi1,h_1⟩ hq1;have hm1:=(hq1.1 2 _ _ rfl);try dsimp only at hk1 hi1 h_1
  clear hq1;cbv
  by_cases hc1_:k1<a2.length
  ·have hb1:lt v2 (llen (r_Trip a2))=true:=gW hg ht hi1 hc1_;have hs1:=kj hg ht hi1 hc1_ hm1;obtain⟨z1,hz1⟩:=aG hc1_;rw[ax hz1] at h_1;rw[bZ] at h_1;obtain⟨z1_Leg,z1_Day⟩:=z1;try rw[←hg] at h_1
   try rw[←ht] at h_1
   try dsimp only at h_1
   rw[hb1];cbv;refine AStep.mk (ez hi1) ?_;cbv;refine AGet.mk _ (cW hg ht hi1 hz1) ?_;cbv;obtain⟨x1,hx1,h_1⟩:=af h_1;try dsimp only at h_1
   refine ACall.mk _ _ rfl (hF _ _ _ (og hg ht hx1)) (.inl rfl) (nb rfl) ?_;cbv
   cases hb2:(lt a4 x1)
   rotate_left
   ·rw[ab hb2] at h_1;cbv;refine⟨v1,Wk.of [(0,some 1)] rfl rfl ?_ ?_,(Option.some.inj h_1).symm⟩
    ·cbv;all_goals exact⟨⟨_,rfl,rfl⟩,⟨_,rfl,rfl⟩,trivial⟩
    cbv;all_goals exact⟨⟨_,rfl,_,rfl,rfl,rfl,trivial⟩,trivial⟩
   rw[aa hb2] at h_1;cbv;refine AStep.mk (ez hi1) ?_;cbv;refine AGet.mk _ (cW hg ht hi1 hz1) ?_;cbv;obtain⟨x2,hx2,h_1⟩:=af h_1;try dsimp only at h_1
   refine ACall.mk _ _ rfl (hF _ _ _ (sk hg ht hx2)) (.inl rfl) (nb rfl) ?_;cbv
   cases hb3:(lt a4 x2)
   rotate_left
   ·rw[ab hb3] at h_1;cbv;refine AStep.mk (ez hi1) ?_;cbv;refine AGet.mk _ (cW hg ht hi1 hz1) ?_;cbv;obtain⟨x3,hx3,h_1⟩:=ah h_1;try dsimp only at h_1
    refine ACall.mk _ _ rfl (hF _ _ _ (Ai hg ht hx3)) (.inl rfl) (nb rfl) ?_;cbv;obtain rfl:=Option.some.inj h_1;try dsimp only[lr,lrL,lrp,aZ] at h
    obtain rfl:=Option.some.inj h;exact ARet.mk trivial hX.symm
   rw[aa hb3] at h_1;cbv;refine AStep.mk (ez hi1) ?_;cbv;refine AGet.mk _ (cW hg ht hi1 hz1) ?_;cbv;obtain⟨hc1,h_1⟩:=aj h_1;refine AStep.mk hc1 ?_;cbv;obtain⟨x4,hx4,h_1⟩:=aD h_1;obtain⟨x4_From,x4_To,x4_Start,x4_Takes,x4_Days,x4_Room⟩:=x4;try dsimp only at h_1
   refine AGet.mk _ (aY hg ht hx4) ?_;cbv;try rw[hg] at h_1
   try rw[ht] at h_1
   refine⟨⟨(k1+1,(wrap .i64 (add v2 1)),x4_To),hc1_,hs1,h_1⟩,Wk.of [(0,some 0),(1,some 1)] rfl rfl ?_ ?_,aK hc1_⟩
   ·cbv;all_goals exact⟨⟨_,rfl,rfl⟩,⟨_,rfl,rfl⟩,⟨_,rfl,rfl⟩,⟨_,rfl,rfl⟩,⟨_,rfl,rfl⟩,⟨_,rfl,rfl⟩,trivial⟩
   cbv;all_goals exact⟨⟨_,rfl,_,rfl,rfl,rfl,rfl,trivial⟩,⟨_,rfl,_,rfl,rfl,rfl,trivial⟩,trivial⟩
  have hb1:lt v2 (llen (r_Trip a2))=false:=gk hg ht hi1 hc1_;rw[List.drop_of_length_le (Nat.le_of_not_lt hc1_)] at h_1;rw[bZ] at h_1;try rw[←hg] at h_1
  try rw[←ht] at h_1
  try dsimp only at h_1
  rw[hb1];cbv;refine⟨v1,Wk.of [(0,some 1)] rfl rfl ?_ ?_,(Option.some.inj h_1).symm⟩
  ·cbv;all_goals exact⟨⟨_,rfl,rfl⟩,⟨_,rfl,rfl⟩,trivial⟩
  cbv;all_goals exact⟨⟨_,rfl,_,rfl,rfl,rfl,trivial⟩,trivial⟩
 rintro y1 hy1;replace hy1:=hy1.symm;subst hy1;try dsimp only[lr,lrL,lrp,aZ] at h
 cbv;obtain⟨x5,hx5,h⟩:=ah h;try dsimp only at h
 refine ACall.mk _ _ rfl (hF _ _ _ (A7 hg ht hx5)) (.inl rfl) (nb rfl) ?_;cbv;obtain rfl:=Option.some.inj h;exact ARet.mk trivial hX.symm
def ir8:J:=js [jm 2 kf] [0] (.seq (js [jm 14 0,jc 15 11 [14]] [0,15] (.cond 15 (js [jm 2 kt] [2] .ret) .skip)) (js [jm 17 0,jq 18 (.call 12 false [17]),jm 16 18,jq 19 (.ext 0 16),jq 20 (.ext 1 16),jq 21 (.ext 2 16),jq 22 (.ext 3 16),jq 3 (.alloc [.n 6,.n 1,.r (.v (.int .i64 0))]),jp (.st 3 3 19),jm 4 20,jm 5 21,jm 6 22] [0,3,4,5,6] (js [jl 24 3 3,jm 25 4,jm 26 5,jm 27 6,jq 28 (.call 13 false [24,25,26,27]),jm 23 28,jq 29 (.ext 0 23),jq 30 (.ext 1 23),jm 7 29,jm 8 30] [0,3,4,5,6,7,8] (.seq (js [jl 32 3 3,jm 33 4,jm 34 5,jm 35 6,jq 36 (.call 14 false [32,33,34,35]),jm 31 36,jq 37 (.ext 0 31),jq 38 (.ext 1 31),jm 9 37,jm 10 38] [0,3,4,6,7,8,10] (js [jm 39 8,jm 40 10,jb 41 .neq .b 39 40] [0,3,4,6,7,8,41] (.cond 41 (js [jm 2 kf] [2] .ret) .skip))) (.seq (js [jm 42 8,jq 43 (.not 42),jm 44 43,jv 45 44 (.mv 6),jv 46 44 (.bin .lss .i 45 (ki 0)),jq 47 (.pick 44 kt 46)] [0,3,4,6,7,47] (.cond 47 (js [jm 2 kt] [2] .ret) .skip)) (js [jl 48 3 3,jm 49 7,jm 50 4,jm 51 6,jq 52 (.call 16 false [48,49,(ki 3),50,51]),jm 53 0,jc 54 17 [53,(ki 1)],jq 55 (.call 15 false [52,54]),jm 11 55] [0,3,4,6,7,11] (js [jm 56 6,jm 57 0,jc 58 17 [57,(ki 2)],jb 59 .mul .i (ki 5) 58,jb 60 .add .i 56 59,jm 12 60] [3,4,7,11,12] (js [jl 61 3 3,jm 62 11,jm 63 12,jq 64 (.call 40 false [61,62,(ki 3),63]),jq 13 (.alloc [.n 1,.n 2]),jp (.st 2 13 64)] [3,4,7,12,13] (js [jf 65 1 13,jk 66 65,jq 67 (.len false 66),jb 68 .geq .i 67 (ki 60),jm 69 68,jv 70 69 (.ld true 3 3),jv 71 69 (.ld true 2 13),jv 72 69 (.mv 7),jv 73 69 (.mv 4),jv 74 69 (.mv 12),jv 75 69 (.call 44 true [70,71,72,73,74]),jv 76 69 (.mv 75),ju 77 76 (.ld true 2 13),ju 78 76 (.call 45 true [77]),ju 79 76 (.bin .gtr .i 78 (ki 0)),jv 80 69 (.pick 76 79 kf),jq 81 (.pick 69 kt 80),jm 2 81] [2] .ret)))))))))
def rv8:List RV:=[.t 2]
def jO (g:G) (t:TE) (a0:List Int):Option Bool:=
 lP (pA g t a0) fun x1=>
 br x1
 (
  some true)
 (
  cl (dJ g t a0) fun x2=>
  cl (gB g t (Network.mk x2.1.Legs x2.1.Off x2.1.Change) x2.2.1 x2.2.2.1 x2.2.2.2) fun x3=>
  cl (gI g t (Network.mk x2.1.Legs x2.1.Off x2.1.Change) x2.2.1 x2.2.2.1 x2.2.2.2) fun x4=>
  br x3.2
  (
   br x4.2
   (
    br (g.lt x2.2.2.2 0)
    (
     some true)
    (
     cl (kO g t (Network.mk x2.1.Legs x2.1.Off x2.1.Change) x3.1 3 x2.2.1 x2.2.2.2) fun x5=>
     cl (sR g t a0 1) fun x6=>
     cl (oW g t x5 x6) fun x7=>
     cl (sR g t a0 2) fun x8=>
     cl (fC g t (Network.mk x2.1.Legs x2.1.Off x2.1.Change) x7 3 (g.wrap .i64 (g.add x2.2.2.2 (g.wrap .i64 (g.mul 5 x8))))) fun x9=>
     br (g.le 60 (g.llen (t.r_Trip x9.Rides)))
     (
      some true)
     (
      cl (ma g t (Network.mk x2.1.Legs x2.1.Off x2.1.Change) x9 x3.1 x2.2.1 (g.wrap .i64 (g.add x2.2.2.2 (g.wrap .i64 (g.mul 5 x8))))) fun x10=>
      br x10
      (
       lP (kL g t x9) fun x11=>
       some (g.lt 0 x11))
      (
       some false))))
   (
    some false))
  (
   br x4.2
   (
    some false)
   (
    some true)))
theorem vD {g:G} {t:TE} {a0:List Int} {r:Bool} (hg:g=G.real) (ht:t=TE.real) (h:jO g t a0=some r):Fn Tryz.prog 8 [.c (.s 1 (t.r_U8 a0))] (.c (.r (.v (.bool r)))):=by
 obtain⟨X,hX⟩:=aC (.c (.r (.v (.bool r))):X);rw[←hX];refine ay (rvs:=rv8) (j:=ir8) Tryz.func8 rfl (by kernel_rfl) (nb rfl) (by kernel_rfl) ac ?_;intro g2 F hg2 hF;obtain rfl:g2=g:=hg2.unique.trans hg.symm;clear hg2;obtain⟨_,lt,le,_,_,_,_,_,_,_,_,_,_,_,_,_,_,_,_,_,_,llen,_,_,_,_,_,_,_,rda⟩:=g2;obtain⟨_,_,r_Scan,d_Scan,r_Leg,d_Leg,r_I64,d_I64,r_Trip,d_Trip,_,_,r_S,d_S⟩:=t
 have hrda_Scan:∀l,rda (d_Scan l)=r_Scan l:=sw hg ht;have hrda_Leg:∀l,rda (d_Leg l)=r_Leg l:=qe hg ht;have hrda_I64:∀l,rda (d_I64 l)=r_I64 l:=np hg ht;have hrda_Trip:∀l,rda (d_Trip l)=r_Trip l:=qW hg ht;have hrda_S:∀l,rda (d_S l)=r_S l:=Dx hg ht;unfold jO at h;try dsimp only at h
 cbv;obtain⟨x1,hx1,h⟩:=ah h;try dsimp only at h
 refine ACall.mk _ _ rfl (hF _ _ _ (uR hg ht hx1)) (.inl rfl) (nb rfl) ?_;cbv
 cases hb1:x1
 rotate_left
 ·rw[ab hb1] at h;cbv;obtain rfl:=Option.some.inj h;exact ARet.mk trivial hX.symm
 rw[aa hb1] at h;cbv;obtain⟨x2,hx2,h⟩:=af h;obtain⟨⟨x2_1_Legs,x2_1_Off,x2_1_Change⟩,x2_2_1,x2_2_2_1,x2_2_2_2⟩:=x2;try dsimp only at h
 refine ACallR.mk _ _ (.u [.g [.r (.s 6 (r_Leg x2_1_Legs)),.r (.s 1 (r_I64 x2_1_Off)),.r (.v (.int .i64 x2_1_Change))],.c (.r (.v (.string x2_2_1))),.c (.r (.v (.string x2_2_2_1))),.c (.r (.v (.int .i64 x2_2_2_2)))]) rfl (hF _ _ _ (ik hg ht hx2)) (.inl rfl) (nb rfl) (by cbv;(try simp only[hrda_I64,hrda_Leg])) ?_;cbv;obtain⟨x3,hx3,h⟩:=af h;obtain⟨x3_1,x3_2⟩:=x3;try dsimp only at h
 refine ACallR.mk _ _ (.u [.c (.r (.s 2 (r_Trip x3_1))),.c (.r (.v (.bool x3_2)))]) rfl (hF _ _ _ (ll hg ht hx3)) (.inl rfl) (nb rfl) (by cbv;(try simp only[hrda_Trip])) ?_;cbv;obtain⟨x4,hx4,h⟩:=af h;obtain⟨x4_1,x4_2⟩:=x4;try dsimp only at h
 refine ACallR.mk _ _ (.u [.c (.r (.s 2 (r_Trip x4_1))),.c (.r (.v (.bool x4_2)))]) rfl (hF _ _ _ (lh hg ht hx4)) (.inl rfl) (nb rfl) (by cbv;(try simp only[hrda_Trip])) ?_;cbv;have hb2:x3_2=true∨x3_2=false:=by cases x3_2<;>simp
 rcases hb2 with hb2|hb2
 ·rw[ab hb2] at h;have hK_:=h;subst hb2;have h:=hK_;clear hK_;cbv;have hb3:x4_2=true∨x4_2=false:=by cases x4_2<;>simp
  rcases hb3 with hb3|hb3
  ·rw[ab hb3] at h;have hK_:=h;subst hb3;have h:=hK_;clear hK_;cbv;iterate 3 try(rw[hb2];cbv)
   cases hb4:(lt x2_2_2_2 0)
   rotate_left
   ·rw[ab hb4] at h;cbv;obtain rfl:=Option.some.inj h;exact ARet.mk trivial hX.symm
   rw[aa hb4] at h;cbv;obtain⟨x5,hx5,h⟩:=af h;try dsimp only at h
   refine ACallR.mk _ _ (.c (.r (.s 6 (r_Scan x5)))) rfl (hF _ _ _ (o8 hg ht hx5)) (.inl rfl) (nb rfl) (by cbv;(try simp only[hrda_Scan])) ?_;cbv;obtain⟨x6,hx6,h⟩:=af h;try dsimp only at h
   refine ACall.mk _ _ rfl (hF _ _ _ (rj hg ht hx6)) (.inl rfl) (nb rfl) ?_;cbv;obtain⟨x7,hx7,h⟩:=af h;try dsimp only at h
   refine ACallR.mk _ _ (.c (.r (.s 6 (r_Scan x7)))) rfl (hF _ _ _ (vC hg ht hx7)) (.inl rfl) (nb rfl) (by cbv;(try simp only[hrda_Scan])) ?_;cbv;obtain⟨x8,hx8,h⟩:=af h;try dsimp only at h
   refine ACall.mk _ _ rfl (hF _ _ _ (rj hg ht hx8)) (.inl rfl) (nb rfl) ?_;cbv;obtain⟨x9,hx9,h⟩:=af h;obtain⟨x9_Places,x9_Rides⟩:=x9;try dsimp only at h
   refine ACallR.mk _ _ (.g [.r (.s 1 (r_S x9_Places)),.r (.s 2 (r_Trip x9_Rides))]) rfl (hF _ _ _ (kQ hg ht hx9)) (.inl rfl) (nb rfl) (by cbv;(try simp only[hrda_S,hrda_Trip])) ?_;cbv
   cases hb5:(le 60 (llen (r_Trip x9_Rides)))
   rotate_left
   ·rw[ab hb5] at h;cbv;iterate 8 try(rw[hb5];cbv)
    obtain rfl:=Option.some.inj h;exact ARet.mk trivial hX.symm
   rw[aa hb5] at h;cbv;iterate 5 try(rw[hb5];cbv)
   obtain⟨x10,hx10,h⟩:=af h;try dsimp only at h
   refine ACall.mk _ _ rfl (hF _ _ _ (AR hg ht hx10)) (.inl rfl) (nb rfl) ?_;cbv;try(rw[hb5];cbv)
   cases hb6:x10
   ·rw[aa hb6] at h;cbv;iterate 2 try(rw[hb6];cbv)
    try(rw[hb5];cbv)
    try(rw[hb6];cbv)
    try(rw[hb5];cbv)
    obtain rfl:=Option.some.inj h;exact ARet.mk trivial hX.symm
   rw[ab hb6] at h;cbv;try(rw[hb6];cbv)
   obtain⟨x11,hx11,h⟩:=ah h;try dsimp only at h
   refine ACall.mk _ _ rfl (hF _ _ _ (sZ hg ht hx11)) (.inl rfl) (nb rfl) ?_;cbv;try(rw[hb6];cbv)
   try(rw[hb5];cbv)
   try(rw[hb6];cbv)
   try(rw[hb5];cbv)
   obtain rfl:=Option.some.inj h;exact ARet.mk trivial hX.symm
  rw[aa hb3] at h;have hK_:=h;subst hb3;have h:=hK_;clear hK_;cbv;obtain rfl:=Option.some.inj h;exact ARet.mk trivial hX.symm
 rw[aa hb2] at h;have hK_:=h;subst hb2;have h:=hK_;clear hK_;cbv;have hb7:x4_2=true∨x4_2=false:=by cases x4_2<;>simp
 rcases hb7 with hb7|hb7
 ·rw[ab hb7] at h;have hK_:=h;subst hb7;have h:=hK_;clear hK_;cbv;obtain rfl:=Option.some.inj h;exact ARet.mk trivial hX.symm
 rw[aa hb7] at h;have hK_:=h;subst hb7;have h:=hK_;clear hK_;cbv;iterate 3 try(rw[hb2];cbv)
 obtain rfl:=Option.some.inj h;exact ARet.mk trivial hX.symm
end Go.Vs
