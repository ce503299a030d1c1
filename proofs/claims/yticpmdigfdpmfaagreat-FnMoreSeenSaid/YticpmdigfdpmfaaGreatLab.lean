/- Part of the proofs of this seat's laws: Lab. No condition. -/
import Derived.Test.YticpmdigfdpmfaaGreatTy
import Derived.Test.YticpmdigfdpmfaaGreatTIRall
import Derived.Test.YticpmdigfdpmfaaGreatLaa
set_option linter.unusedVariables false
set_option linter.unusedSimpArgs false
set_option linter.unusedSectionVars false
namespace Go.Vs
set_option maxRecDepth 100000
def Hh:J:=js [jq 3 (.box 0),jq 6 (.alloc [.r (.v (.int .i64 0)),.r (.v (.int .i64 0))]),jm 7 kf] [1,2,3,6] (.seq (js [jm 8 (ki 0)] [1,2,3,6,8] (.bl 0 (.seq (js [jm 10 8,jb 11 .leq .i 10 (ki 60)] [1,2,3,6,8,11] (.cond 11 .skip (.exit 0))) (.seq (.block 1 (js [jm 14 1,jm 15 8,jq 16 (.bld [.r (.v (.int .i64 0)),.r (.v (.int .i64 0))] [(0,1,14),(1,1,15)]),jq 9 (.alloc [.r (.v (.int .i64 0)),.r (.v (.int .i64 0))]),jp (.st 2 9 16)] [1,2,3,6,8,9] (js [jl 17 3 3,jm 18 1,jm 19 8,jc 20 100 [17,18,19],jm 21 20,ju 22 21 (.ld true 3 3),ju 23 21 (.ld true 2 9),ju 24 21 (.call 85 true [22,23]),ju 25 21 (.mv 2),ju 26 21 (.bin .geq .i 24 25),jq 27 (.pick 21 26 kf)] [1,2,3,6,8,9,27] (.cond 27 (js [jl 28 2 9,jp (.st 2 6 28),jm 7 kt] [6,7] .ret) .skip)))) (.reg none [jm 12 8,jb 13 .add .i 12 (ki 1),jm 8 13] [1,2,3,6,8]))))) (js [jq 29 (.bld [.r (.v (.int .i64 0)),.r (.v (.int .i64 0))] []),jp (.st 2 6 29),jm 7 kf] [6,7] .ret))
def G4:List RV:=[.c 6 true 2,.t 7]
open Go.Proofs Go.IntWalk
set_option linter.unusedVariables false
set_option maxHeartbeats 4000000
def eK (g:G) (t:TE) (a0:Network) (a1:Int) (a2:Int):Nat→Int→Option (LR (Trip×Bool) Unit)
 |0,v1=>
  some (LR.out ())
 |n1+1,v1=>
  cl (jW g t a0 a1 v1) fun x1=>
  br x1
  (
   cl (ci g t a0 (Trip.mk a1 v1)) fun x2=>
   br (g.le a2 x2)
   (
    some (LR.ret (((Trip.mk a1 v1),true))))
   (
    eK g t a0 a1 a2 n1 (g.wrap .i64 (g.add v1 1))))
  (
   eK g t a0 a1 a2 n1 (g.wrap .i64 (g.add v1 1)))
def rI (g:G) (t:TE) (a0:Network) (a1:Int) (a2:Int):Option (Trip×Bool):=
 cl (eK g t a0 a1 a2 (df 0 60) 0) fun o1=>lr o1 fun y1=>
 some (((Trip.mk 0 0),false))
theorem Cu {g:G} {t:TE} {a0:Network} {a1:Int} {a2:Int} {r:Trip×Bool} (hg:g=G.real) (ht:t=TE.real) (h:rI g t a0 a1 a2=some r):Fn Tryz.prog 112 [.g (Network.rs t a0),.c (.v (.int .i64 a1)),.c (.v (.int .i64 a2))] (.u [.g (Trip.ds t r.1),.c (.r (.v (.bool r.2)))]):=by
 obtain⟨X,hX⟩:=aE (.u [.g (Trip.ds t r.1),.c (.r (.v (.bool r.2)))]:X);rw[←hX];refine az (rvs:=G4) (j:=Hh) Tryz.func112 rfl (by kernel_rfl) (nb rfl) (by kernel_rfl) ac ?_;intro g2 F hg2 hF;obtain rfl:g2=g:=hg2.unique.trans hg.symm;clear hg2;obtain⟨wrap,_,le,_,_,_,_,_,_,_,_,_,_,add⟩:=g2;obtain⟨_,_,_,_,r_Leg,_,r_I64⟩:=t
 obtain⟨a0_Legs,a0_Off,a0_Change⟩:=a0;unfold rI at h;try dsimp only at h
 cbv;obtain⟨o1,ho1,h⟩:=ae h;try dsimp only at h
 try rw[hg] at ho1
 try rw[ht] at ho1
 refine ABL.mk {p:Nat×Int//p.1=df p.2 60∧0≤p.2∧eK G.real TE.real (Network.mk a0_Legs a0_Off a0_Change) a1 a2 p.1 p.2=some o1} (fun⟨⟨n1,v1⟩,_⟩=>({sl:=[(1,.c (.r (.v (.int .i64 a1)))),(2,.c (.r (.v (.int .i64 a2)))),(3,.c (.p 0 3 0 0)),(6,.c (.p 1 2 0 0)),(8,.c (.r (.v (.int .i64 v1))))],tab:=[(0,some (.foc 3 [] [.r (.s 6 (r_Leg a0_Legs)),.r (.s 1 (r_I64 a0_Off)),.r (.v (.int .i64 a0_Change))] [])),(1,some (.foc 2 [] [.r (.v (.int .i64 0)),.r (.v (.int .i64 0))] []))]}:St)) 2 (fun p=>p.1.1) ⟨(df 0 60,0),rfl,Int.le_refl _,ho1⟩ (Unit) (fun _=>({sl:=[(6,.c (.p 0 2 0 0))],tab:=[(0,some (.foc 2 [] [.r (.v (.int .i64 0)),.r (.v (.int .i64 0))] []))]}:St)) 1 (fun y=>o1=LR.out y) ?_ ?_ ?_
 ·refine Wk.of [(0,some 0),(1,some 16)] rfl rfl ?_ ?_
  ·cbv;all_goals exact⟨⟨_,rfl,rfl⟩,⟨_,rfl,rfl⟩,⟨_,rfl,rfl⟩,⟨_,rfl,rfl⟩,⟨_,rfl,rfl⟩,trivial⟩
  cbv;all_goals exact⟨⟨_,rfl,_,rfl,rfl,rfl,rfl,trivial⟩,⟨_,rfl,_,rfl,rfl,rfl,trivial⟩,trivial⟩
 ·rintro⟨⟨n1,v1⟩,hn1,hi1,h_1⟩ hq1;try dsimp only at hn1 hi1 h_1
  clear hq1;cbv;rcases n1 with _|n1
  ·have hb1:le v1 60=false:=jR hg hn1;rw[eK] at h_1;try rw[←hg] at h_1
   try rw[←ht] at h_1
   try dsimp only at h_1
   rw[hb1];cbv;refine⟨(),Wk.of [(0,some 1)] rfl rfl ?_ ?_,(Option.some.inj h_1).symm⟩
   ·cbv;all_goals exact⟨⟨_,rfl,rfl⟩,trivial⟩
   cbv;all_goals exact⟨⟨_,rfl,_,rfl,rfl,rfl,trivial⟩,trivial⟩
  have hb1:le v1 60=true:=kL hg hn1;have hl1:=pZ hn1;have hs1:=mW hg hn1 hi1 (by decide) (by decide);rw[eK] at h_1;try rw[←hg] at h_1
  try rw[←ht] at h_1
  try dsimp only at h_1
  rw[hb1];cbv;obtain⟨x1,hx1,h_1⟩:=ae h_1;try dsimp only at h_1
  refine ACall.mk _ _ rfl (hF _ _ _ (ny hg ht hx1)) (.inl rfl) (nb rfl) ?_;cbv
  cases hb2:x1
  ·rw[aa hb2] at h_1;cbv;iterate 5 try(rw[hb2];cbv)
   try rw[hg] at h_1
   try rw[ht] at h_1
   refine⟨⟨(n1,(wrap .i64 (add v1 1))),hs1.1,hs1.2,h_1⟩,Wk.of [(0,some 0),(1,some 1)] rfl rfl ?_ ?_,Nat.lt_succ_self _⟩
   ·cbv;all_goals exact⟨⟨_,rfl,rfl⟩,⟨_,rfl,rfl⟩,⟨_,rfl,rfl⟩,⟨_,rfl,rfl⟩,⟨_,rfl,rfl⟩,trivial⟩
   cbv;all_goals exact⟨⟨_,rfl,_,rfl,rfl,rfl,rfl,trivial⟩,⟨_,rfl,_,rfl,rfl,rfl,trivial⟩,trivial⟩
  rw[ab hb2] at h_1;cbv;iterate 2 try(rw[hb2];cbv)
  obtain⟨x2,hx2,h_1⟩:=ae h_1;try dsimp only at h_1
  refine ACall.mk _ _ rfl (hF _ _ _ (cA hg ht hx2)) (.inl rfl) (nb rfl) ?_;cbv;iterate 3 try(rw[hb2];cbv)
  cases hb3:(le a2 x2)
  rotate_left
  ·rw[ab hb3] at h_1;cbv;obtain rfl:=Option.some.inj h_1;try dsimp only[lr,lrL,lrp,aW] at h
   obtain rfl:=Option.some.inj h;exact ARet.mk trivial hX.symm
  rw[aa hb3] at h_1;cbv;try rw[hg] at h_1
  try rw[ht] at h_1
  refine⟨⟨(n1,(wrap .i64 (add v1 1))),hs1.1,hs1.2,h_1⟩,Wk.of [(0,some 0),(1,some 1)] rfl rfl ?_ ?_,Nat.lt_succ_self _⟩
  ·cbv;all_goals exact⟨⟨_,rfl,rfl⟩,⟨_,rfl,rfl⟩,⟨_,rfl,rfl⟩,⟨_,rfl,rfl⟩,⟨_,rfl,rfl⟩,trivial⟩
  cbv;all_goals exact⟨⟨_,rfl,_,rfl,rfl,rfl,rfl,trivial⟩,⟨_,rfl,_,rfl,rfl,rfl,trivial⟩,trivial⟩
 rintro _ hy1;replace hy1:=hy1.symm;subst hy1;try dsimp only[lr,lrL,lrp,aW] at h
 cbv;obtain rfl:=Option.some.inj h;exact ARet.mk trivial hX.symm
def Gs:J:=js [jq 5 (.alloc [.r (.v (.int .i64 0)),.r (.v (.int .i64 0))]),jm 6 kf] [0,1,2,5] (js [jl 10 3 2,jm 11 0,jm 12 1,jc 13 112 [10,11,12],jm 9 13,jq 14 (.ext 0 9),jq 15 (.ext 1 9),jq 7 (.alloc [.r (.v (.int .i64 0)),.r (.v (.int .i64 0))]),jp (.st 2 7 14),jm 8 15] [5,7,8] (js [jl 16 2 7,jm 17 8,jp (.st 2 5 16),jm 6 17] [5,6] .ret))
def Ho:List RV:=[.c 5 true 2,.t 6]
def I_nextOf_1 (g:G) (t:TE) (a0:Int) (a1:Int) (a2:Network):Option (Trip×Bool):=
 cl (rI g t a2 a0 a1) fun x1=>
 some (((Trip.mk x1.1.Leg x1.1.Day),x1.2))
theorem uj {g:G} {t:TE} {a0:Int} {a1:Int} {a2:Network} {r:Trip×Bool} (hg:g=G.real) (ht:t=TE.real) (h:I_nextOf_1 g t a0 a1 a2=some r):Fn Tryz.prog 111 [.c (.v (.int .i64 a0)),.c (.v (.int .i64 a1)),.q (Network.rs t a2)] (.u [.g (Trip.ds t r.1),.c (.r (.v (.bool r.2)))]):=by
 obtain⟨X,hX⟩:=aE (.u [.g (Trip.ds t r.1),.c (.r (.v (.bool r.2)))]:X);rw[←hX];refine az (rvs:=Ho) (j:=Gs) Tryz.func111 rfl (by kernel_rfl) (nb rfl) (by kernel_rfl) ac ?_;intro g2 F hg2 hF;obtain rfl:g2=g:=hg2.unique.trans hg.symm;clear hg2;obtain⟨_⟩:=g2;obtain⟨_⟩:=t
 obtain⟨a2_Legs,a2_Off,a2_Change⟩:=a2;unfold I_nextOf_1 at h;try dsimp only at h
 cbv;obtain⟨x1,hx1,h⟩:=ae h;obtain⟨⟨x1_1_Leg,x1_1_Day⟩,x1_2⟩:=x1;try dsimp only at h
 refine ACall.mk _ _ rfl (hF _ _ _ (Cu hg ht hx1)) (.inl rfl) (nb rfl) ?_;cbv;obtain rfl:=Option.some.inj h;exact ARet.mk trivial hX.symm
def ir77:J:=js [jq 3 (.box 1),jm 4 (ki 0)] [0,3] (js [jm 5 (ki 0)] [0,3,5] (.seq (js [jm 8 0,jq 9 (.len false 8),jm 10 (ki 0)] [3,5,8,9,10] (.bl 0 (js [jb 11 .lss .i 10 9] [3,5,8,9,10,11] (.seq (.cond 11 .skip (.exit 0)) (.seq (.block 1 (js [ja 12 4 8 10,jl 13 4 12,jq 7 (.alloc [.r (.v (.int .i64 0)),.r (.v (.int .i64 0)),.r (.v (.int .i64 0)),.r (.v (.int .i64 0))]),jp (.st 4 7 13)] [3,5,7,8,9,10] (js [jf 14 1 7,jl 15 2 14,jl 16 2 3,jq 17 (.eqs false [.i,.i] 15 16)] [3,5,7,8,9,10,17] (.cond 17 (.reg none [jm 18 5,jf 19 3 7,jk 20 19,jb 21 .add .i 18 20,jm 5 21] [3,5,8,9,10]) .skip)))) (.reg none [jb 22 .add .i 10 (ki 1),jm 10 22] [3,5,8,9,10])))))) (js [jm 23 5,jm 4 23] [4] .ret)))
def rv77:List RV:=[.t 4]
def fE (g:G) (t:TE) (a1:Trip):List Booking→Int→Int
 |[],v1=>
  v1
 |z1::ls1,v1=>
  br (g.all [(g.eq z1.Trip.Leg a1.Leg),(g.eq z1.Trip.Day a1.Day)])
  (
   fE g t a1 ls1 (g.wrap .i64 (g.add v1 z1.Weight)))
  (
   fE g t a1 ls1 v1)
def qT (g:G) (t:TE) (a0:List Booking) (a1:Trip):Int:=
 lP (fE g t a1 a0 0) fun y1=>
 y1
theorem xl {g:G} {t:TE} {a0:List Booking} {a1:Trip} {r:Int} (hg:g=G.real) (ht:t=TE.real) (h:qT g t a0 a1=r):Fn Tryz.prog 77 [.c (.s 4 (t.r_Booking a0)),.g (Trip.rs t a1)] (.c (.r (.v (.int .i64 r)))):=by
 obtain⟨X,hX⟩:=aE (.c (.r (.v (.int .i64 r))):X);rw[←hX];refine az (rvs:=rv77) (j:=ir77) Tryz.func77 rfl (by kernel_rfl) (nb rfl) (by kernel_rfl) ac ?_;intro g2 F hg2 hF;obtain rfl:g2=g:=hg2.unique.trans hg.symm;clear hg2;obtain⟨wrap,lt,_,eq,_,_,_,_,_,_,_,_,_,add,_,_,_,_,_,_,_,llen,_,_,_,_,_,_,_,_,_,_,_,all⟩:=g2;obtain⟨_,_,_,_,_,_,_,_,_,_,r_Booking⟩:=t
 obtain⟨a1_Leg,a1_Day⟩:=a1;unfold qT at h;try dsimp only at h
 cbv;obtain⟨o1,ho1,h⟩:=ag h;try dsimp only at h
 try rw[hg] at ho1
 try rw[ht] at ho1
 refine ABL.mk {p:Nat×Int×Int//p.1≤a0.length∧p.2.1=((p.1:Nat):Int)∧fE G.real TE.real (Trip.mk a1_Leg a1_Day) (List.drop p.1 a0) p.2.2=o1} (fun⟨⟨k1,v2,v1⟩,_⟩=>({sl:=[(3,.c (.p 0 2 0 0)),(5,.c (.r (.v (.int .i64 v1)))),(8,.c (.r (.s 4 (r_Booking a0)))),(9,.c (.r (.v (.int .i64 (llen (r_Booking a0)))))),(10,.c (.r (.v (.int .i64 v2))))],tab:=[(0,some (.foc 2 [] [.r (.v (.int .i64 a1_Leg)),.r (.v (.int .i64 a1_Day))] []))]}:St)) 1 (fun p=>a0.length-p.1.1) ⟨(0,0,0),Nat.zero_le _,rfl,ho1⟩ (Int) (fun y1=>({sl:=[(5,.c (.r (.v (.int .i64 y1))))],tab:=[]}:St)) 0 (fun y=>o1=y) ?_ ?_ ?_
 ·refine Wk.of [(0,some 0)] rfl rfl ?_ ?_
  ·cbv;all_goals exact⟨⟨_,rfl,rfl⟩,⟨_,rfl,rfl⟩,⟨_,rfl,rfl⟩,⟨_,rfl,rfl⟩,⟨_,rfl,rfl⟩,trivial⟩
  cbv;all_goals exact⟨⟨_,rfl,_,rfl,rfl,rfl,trivial⟩,trivial⟩
 ·rintro⟨⟨k1,v2,v1⟩,hk1,hi1,h_1⟩ hq1;have hm1:=(hq1.1 8 _ _ rfl);try dsimp only at hk1 hi1 h_1
  clear hq1;cbv
  by_cases hc1_:k1<a0.length
  ·have hb1:lt v2 (llen (r_Booking a0))=true:=oj hg ht hi1 hc1_;have hs1:=sa hg ht hi1 hc1_ hm1;obtain⟨z1,hz1⟩:=aD hc1_;rw[aw hz1] at h_1;rw[fE] at h_1;obtain⟨z1_Thing,⟨z1_Trip_Leg,z1_Trip_Day⟩,z1_Weight⟩:=z1;try rw[←hg] at h_1
   try rw[←ht] at h_1
   try dsimp only at h_1
   rw[hb1];cbv;refine AStep.mk (fB hi1) ?_;cbv;refine AGet.mk _ (qM hg ht hi1 hz1) ?_;cbv
   cases hb2:(all [(eq z1_Trip_Leg a1_Leg),(eq z1_Trip_Day a1_Day)])
   ·rw[aa hb2] at h_1;cbv;try rw[hg] at h_1
    try rw[ht] at h_1
    refine⟨⟨(k1+1,(wrap .i64 (add v2 1)),v1),hc1_,hs1,h_1⟩,Wk.of [(0,some 0)] rfl rfl ?_ ?_,aJ hc1_⟩
    ·cbv;all_goals exact⟨⟨_,rfl,rfl⟩,⟨_,rfl,rfl⟩,⟨_,rfl,rfl⟩,⟨_,rfl,rfl⟩,⟨_,rfl,rfl⟩,trivial⟩
    cbv;all_goals exact⟨⟨_,rfl,_,rfl,rfl,rfl,trivial⟩,trivial⟩
   rw[ab hb2] at h_1;cbv;try rw[hg] at h_1
   try rw[ht] at h_1
   refine⟨⟨(k1+1,(wrap .i64 (add v2 1)),(wrap .i64 (add v1 z1_Weight))),hc1_,hs1,h_1⟩,Wk.of [(0,some 0)] rfl rfl ?_ ?_,aJ hc1_⟩
   ·cbv;all_goals exact⟨⟨_,rfl,rfl⟩,⟨_,rfl,rfl⟩,⟨_,rfl,rfl⟩,⟨_,rfl,rfl⟩,⟨_,rfl,rfl⟩,trivial⟩
   cbv;all_goals exact⟨⟨_,rfl,_,rfl,rfl,rfl,trivial⟩,trivial⟩
  have hb1:lt v2 (llen (r_Booking a0))=false:=nI hg ht hi1 hc1_;rw[List.drop_of_length_le (Nat.le_of_not_lt hc1_)] at h_1;rw[fE] at h_1;try rw[←hg] at h_1
  try rw[←ht] at h_1
  try dsimp only at h_1
  rw[hb1];cbv;refine⟨v1,Wk.of [] rfl rfl ?_ ?_,h_1.symm⟩
  ·cbv;all_goals exact⟨⟨_,rfl,rfl⟩,trivial⟩
  cbv;all_goals exact trivial
 rintro y1 hy1;replace hy1:=hy1.symm;subst hy1;try dsimp only[lr,lrL,lrp,aW] at h
 cbv;subst h;exact ARet.mk trivial hX.symm
def Gq:J:=js [jq 3 (.box 1),jm 4 kf] [0,3] (.seq (js [jm 7 0,jq 8 (.len false 7),jm 9 (ki 0)] [3,7,8,9] (.bl 0 (js [jb 10 .lss .i 9 8] [3,7,8,9,10] (.seq (.cond 10 .skip (.exit 0)) (.seq (.block 1 (js [ja 11 2 7 9,jl 12 2 11,jq 6 (.alloc [.r (.v (.int .i64 0)),.r (.v (.int .i64 0))]),jp (.st 2 6 12)] [3,6,7,8,9] (js [jl 13 2 6,jl 14 2 3,jq 15 (.eqs false [.i,.i] 13 14)] [3,7,8,9,15] (.cond 15 (js [jm 4 kt] [4] .ret) .skip)))) (.reg none [jb 16 .add .i 9 (ki 1),jm 9 16] [3,7,8,9])))))) (js [jm 4 kf] [4] .ret))
def GM:List RV:=[.t 4]
def gi (g:G) (t:TE) (a1:Trip):List Trip→LR Bool Unit
 |[]=>
  (LR.out ())
 |z1::ls1=>
  br (g.all [(g.eq z1.Leg a1.Leg),(g.eq z1.Day a1.Day)])
  (
   (LR.ret true))
  (
   gi g t a1 ls1)
def oH (g:G) (t:TE) (a0:List Trip) (a1:Trip):Bool:=
 lP (gi g t a1 a0) fun o1=>lrp o1 fun y1=>
 false
theorem wC {g:G} {t:TE} {a0:List Trip} {a1:Trip} {r:Bool} (hg:g=G.real) (ht:t=TE.real) (h:oH g t a0 a1=r):Fn Tryz.prog 127 [.c (.s 2 (t.r_Trip a0)),.g (Trip.rs t a1)] (.c (.r (.v (.bool r)))):=by
 obtain⟨X,hX⟩:=aE (.c (.r (.v (.bool r))):X);rw[←hX];refine az (rvs:=GM) (j:=Gq) Tryz.func127 rfl (by kernel_rfl) (nb rfl) (by kernel_rfl) ac ?_;intro g2 F hg2 hF;obtain rfl:g2=g:=hg2.unique.trans hg.symm;clear hg2;obtain⟨wrap,lt,_,eq,_,_,_,_,_,_,_,_,_,add,_,_,_,_,_,_,_,llen,_,_,_,_,_,_,_,_,_,_,_,all⟩:=g2;obtain⟨_,_,_,_,_,_,_,_,r_Trip⟩:=t
 obtain⟨a1_Leg,a1_Day⟩:=a1;unfold oH at h;try dsimp only at h
 cbv;obtain⟨o1,ho1,h⟩:=ag h;try dsimp only at h
 try rw[hg] at ho1
 try rw[ht] at ho1
 refine ABL.mk {p:Nat×Int//p.1≤a0.length∧p.2=((p.1:Nat):Int)∧gi G.real TE.real (Trip.mk a1_Leg a1_Day) (List.drop p.1 a0)=o1} (fun⟨⟨k1,v1⟩,_⟩=>({sl:=[(3,.c (.p 0 2 0 0)),(7,.c (.r (.s 2 (r_Trip a0)))),(8,.c (.r (.v (.int .i64 (llen (r_Trip a0)))))),(9,.c (.r (.v (.int .i64 v1))))],tab:=[(0,some (.foc 2 [] [.r (.v (.int .i64 a1_Leg)),.r (.v (.int .i64 a1_Day))] []))]}:St)) 1 (fun p=>a0.length-p.1.1) ⟨(0,0),Nat.zero_le _,rfl,ho1⟩ (Unit) (fun _=>({sl:=[],tab:=[]}:St)) 0 (fun y=>o1=LR.out y) ?_ ?_ ?_
 ·refine Wk.of [(0,some 0)] rfl rfl ?_ ?_
  ·cbv;all_goals exact⟨⟨_,rfl,rfl⟩,⟨_,rfl,rfl⟩,⟨_,rfl,rfl⟩,⟨_,rfl,rfl⟩,trivial⟩
  cbv;all_goals exact⟨⟨_,rfl,_,rfl,rfl,rfl,trivial⟩,trivial⟩
 ·rintro⟨⟨k1,v1⟩,hk1,hi1,h_1⟩ hq1;have hm1:=(hq1.1 7 _ _ rfl);try dsimp only at hk1 hi1 h_1
  clear hq1;cbv
  by_cases hc1_:k1<a0.length
  ·have hb1:lt v1 (llen (r_Trip a0))=true:=gM hg ht hi1 hc1_;have hs1:=j9 hg ht hi1 hc1_ hm1;obtain⟨z1,hz1⟩:=aD hc1_;rw[aw hz1] at h_1;rw[gi] at h_1;obtain⟨z1_Leg,z1_Day⟩:=z1;try rw[←hg] at h_1
   try rw[←ht] at h_1
   try dsimp only at h_1
   rw[hb1];cbv;refine AStep.mk (fB hi1) ?_;cbv;refine AGet.mk _ (ek hg ht hi1 hz1) ?_;cbv
   cases hb2:(all [(eq z1_Leg a1_Leg),(eq z1_Day a1_Day)])
   rotate_left
   ·rw[ab hb2] at h_1;cbv;subst h_1;try dsimp only[lr,lrL,lrp,aW] at h
    subst h;exact ARet.mk trivial hX.symm
   rw[aa hb2] at h_1;cbv;try rw[hg] at h_1
   try rw[ht] at h_1
   refine⟨⟨(k1+1,(wrap .i64 (add v1 1))),hc1_,hs1,h_1⟩,Wk.of [(0,some 0)] rfl rfl ?_ ?_,aJ hc1_⟩
   ·cbv;all_goals exact⟨⟨_,rfl,rfl⟩,⟨_,rfl,rfl⟩,⟨_,rfl,rfl⟩,⟨_,rfl,rfl⟩,trivial⟩
   cbv;all_goals exact⟨⟨_,rfl,_,rfl,rfl,rfl,trivial⟩,trivial⟩
  have hb1:lt v1 (llen (r_Trip a0))=false:=f8 hg ht hi1 hc1_;rw[List.drop_of_length_le (Nat.le_of_not_lt hc1_)] at h_1;rw[gi] at h_1;try rw[←hg] at h_1
  try rw[←ht] at h_1
  try dsimp only at h_1
  rw[hb1];cbv;refine⟨(),Wk.of [] rfl rfl ?_ ?_,h_1.symm⟩
  ·cbv;all_goals exact trivial
  cbv;all_goals exact trivial
 rintro _ hy1;replace hy1:=hy1.symm;subst hy1;try dsimp only[lr,lrL,lrp,aW] at h
 cbv;subst h;exact ARet.mk trivial hX.symm
def Gb:J:=js [jq 8 (.alloc [.r (.v (.int .i64 0)),.r (.v (.int .i64 0))]),jm 9 kf] [0,1,2,3,4,5,8] (.seq (js [jm 10 (ki 0)] [0,1,2,3,4,5,8,10] (.bl 0 (.seq (js [jm 12 10,jb 13 .leq .i 12 (ki 60)] [0,1,2,3,4,5,8,10,13] (.cond 13 .skip (.exit 0))) (.seq (.block 1 (js [jm 16 0,jm 17 10,jq 18 (.bld [.r (.v (.int .i64 0)),.r (.v (.int .i64 0))] [(0,1,16),(1,1,17)]),jq 11 (.alloc [.r (.v (.int .i64 0)),.r (.v (.int .i64 0))]),jp (.st 2 11 18)] [0,1,2,3,4,5,8,10,11] (.seq (.reg (some [[],[],[],[0,1,2],[0,1,2,3],[0,1,2,3,4],[0,1,2,3,4],[0,1,2,3,4,5,6],[0,1,2,3,4],[0,1,2,3,4,5,6,7,8],[0,1,2,3,4,5,6,7,8,9],[0,1,2,3,4,5,6,7,8,9,10],[0,1,2,3,4,5,6,7,8,9,10,11],[0,1,2,3,4,5,6,7,8,9,10,11],[0,1,2,3,4,5,6,7,8,9,10,11,12,13],[0,1,2,3,4,5,6,7,8,9,10,11,12,13,14],[0,1,2,3,4,5,6,7,8,9,10,11,12,13,14,15],[0,1,2,3,4,5,6,7,8,9,10,11,12,13,14,15,16],[0,1,2,3,4,5,6,7,8,9,10,11,12,13,14,15,16,17],[0,1,2,3,4,5,6,7,8,9,10,11,12,13,14,15,16,17,18],[0,1,2,3,4,5,6,7,8,9,10,11,12,13,14,15,16,17],[0,1,2,3,4,5,6,7,8,9,10,11,12,13,14,15,16,17,18,19,20],[0,1,2,3,4,5,6,7,8,9,10,11,12,13,14,15,16,17,18,19,20,21],[0,1,2,3,4,5,6,7,8,9,10,11,12,13,14,15,16,17,18,19,20,21,22],[0,1,2,3,4,5,6,7,8,9,10,11,12,13,14,15,16,17],[0,1,2,3,4,5,6,7,8,9,10,11,12,13,14,15,16,17],[0,1,2,3,4,5,6,7,8,9,10,11,12,13,14,15,16,17,24,25],[0,1,2,3,4,5,6,7,8,9,10,11,12,13,14,15,16,17,18,19,20,21,22,23,24,25,26],[0,1,2,3,4,5,6,7,8,9,10,11,12,13,14,15,16,17],[0,1,2,3,4,5,6,7,8,9,10,11,12,13,14,15,16,17,18,19,20,21,22,23,24,25,26,27,28],[0,1,2,3,4,5,6,7,8,9,10,11,12,13,14,15,16,17,18,19,20,21,22,23,24,25,26,27,28,29]]) [jl 19 3 2,jm 20 0,jm 21 10,jc 22 100 [19,20,21],jm 23 22,ju 24 23 (.ld true 3 2),ju 25 23 (.ld true 2 11),ju 26 23 (.call 85 true [24,25]),ju 27 23 (.mv 1),ju 28 23 (.bin .geq .i 26 27),jq 29 (.pick 23 28 kf),jm 30 29,ju 31 30 (.ld false 1 3),ju 32 30 (.ld true 2 11),ju 33 30 (.call 127 true [31,32]),ju 34 30 (.not 33),jq 35 (.pick 30 34 kf),jm 36 35,ju 37 36 (.fa 0 2),ju 38 36 (.ld false 1 37),ju 39 36 (.mv 0),ju 40 36 (.ia 6 38 39),ju 41 36 (.fa 5 40),ju 42 36 (.ld false 1 41),ju 43 36 (.ld false 1 4),ju 44 36 (.ld true 2 11),ju 45 36 (.call 77 true [43,44]),ju 46 36 (.bin .sub .i 42 45),ju 47 36 (.ld false 1 5),ju 48 36 (.bin .geq .i 46 47),jq 49 (.pick 36 48 kf)] [0,1,2,3,4,5,8,10,11,49]) (.cond 49 (js [jl 50 2 11,jp (.st 2 8 50),jm 9 kt] [8,9] .ret) .skip)))) (.reg none [jm 14 10,jb 15 .add .i 14 (ki 1),jm 10 15] [0,1,2,3,4,5,8,10]))))) (js [jq 51 (.bld [.r (.v (.int .i64
 0)),.r (.v (.int .i64 0))] []),jp (.st 2 8 51),jm 9 kf] [8,9] .ret))
def G2:List RV:=[.c 8 true 2,.t 9]
def cM (g:G) (t:TE) (a0:Int) (a1:Int) (a2:Network) (a3:List Trip) (a4:List Booking) (a5:Int):Nat→Int→Option (LR (Trip×Bool) Unit)
 |0,v1=>
  some (LR.out ())
 |n1+1,v1=>
  cl (jW g t a2 a0 v1) fun x1=>
  br x1
  (
   cl (ci g t a2 (Trip.mk a0 v1)) fun x2=>
   br (g.le a1 x2)
   (
    lP (oH g t a3 (Trip.mk a0 v1)) fun x3=>
    br x3
    (
     cM g t a0 a1 a2 a3 a4 a5 n1 (g.wrap .i64 (g.add v1 1)))
    (
     gd (((0:Int)≤a0))<|
     gt a2.Legs (g.nat a0) fun x4=>
     lP (qT g t a4 (Trip.mk a0 v1)) fun x5=>
     br (g.le a5 (g.wrap .i64 (g.sub x4.Room x5)))
     (
      some (LR.ret (((Trip.mk a0 v1),true))))
     (
      cM g t a0 a1 a2 a3 a4 a5 n1 (g.wrap .i64 (g.add v1 1)))))
   (
    cM g t a0 a1 a2 a3 a4 a5 n1 (g.wrap .i64 (g.add v1 1))))
  (
   cM g t a0 a1 a2 a3 a4 a5 n1 (g.wrap .i64 (g.add v1 1)))
def I_freeOf_1 (g:G) (t:TE) (a0:Int) (a1:Int) (a2:Network) (a3:List Trip) (a4:List Booking) (a5:Int):Option (Trip×Bool):=
 cl (cM g t a0 a1 a2 a3 a4 a5 (df 0 60) 0) fun o1=>lr o1 fun y1=>
 some (((Trip.mk 0 0),false))
theorem t7 {g:G} {t:TE} {a0:Int} {a1:Int} {a2:Network} {a3:List Trip} {a4:List Booking} {a5:Int} {r:Trip×Bool} (hg:g=G.real) (ht:t=TE.real) (h:I_freeOf_1 g t a0 a1 a2 a3 a4 a5=some r):Fn Tryz.prog 126 [.c (.v (.int .i64 a0)),.c (.v (.int .i64 a1)),.q (Network.rs t a2),.q [.s 2 (t.r_Trip a3)],.q [.s 4 (t.r_Booking a4)],.q [.v (.int .i64 a5)]] (.u [.g (Trip.ds t r.1),.c (.r (.v (.bool r.2)))]):=by
 obtain⟨X,hX⟩:=aE (.u [.g (Trip.ds t r.1),.c (.r (.v (.bool r.2)))]:X);rw[←hX];refine az (rvs:=G2) (j:=Gb) Tryz.func126 rfl (by kernel_rfl) (nb rfl) (by kernel_rfl) ac ?_;intro g2 F hg2 hF;obtain rfl:g2=g:=hg2.unique.trans hg.symm;clear hg2;obtain⟨wrap,_,le,_,_,_,_,_,_,_,_,_,_,add,sub⟩:=g2;obtain⟨_,_,_,_,r_Leg,_,r_I64,_,r_Trip,_,r_Booking⟩:=t
 obtain⟨a2_Legs,a2_Off,a2_Change⟩:=a2;unfold I_freeOf_1 at h;try dsimp only at h
 cbv;obtain⟨o1,ho1,h⟩:=ae h;try dsimp only at h
 try rw[hg] at ho1
 try rw[ht] at ho1
 refine ABL.mk {p:Nat×Int//p.1=df p.2 60∧0≤p.2∧cM G.real TE.real a0 a1 (Network.mk a2_Legs a2_Off a2_Change) a3 a4 a5 p.1 p.2=some o1} (fun⟨⟨n1,v1⟩,_⟩=>({sl:=[(0,.c (.r (.v (.int .i64 a0)))),(1,.c (.r (.v (.int .i64 a1)))),(2,.q [(.s 6 (r_Leg a2_Legs)),(.s 1 (r_I64 a2_Off)),(.v (.int .i64 a2_Change))]),(3,.q [(.s 2 (r_Trip a3))]),(4,.q [(.s 4 (r_Booking a4))]),(5,.q [(.v (.int .i64 a5))]),(8,.c (.p 0 2 0 0)),(10,.c (.r (.v (.int .i64 v1))))],tab:=[(0,some (.foc 2 [] [.r (.v (.int .i64 0)),.r (.v (.int .i64 0))] []))]}:St)) 1 (fun p=>p.1.1) ⟨(df 0 60,0),rfl,Int.le_refl _,ho1⟩ (Unit) (fun _=>({sl:=[(8,.c (.p 0 2 0 0))],tab:=[(0,some (.foc 2 [] [.r (.v (.int .i64 0)),.r (.v (.int .i64 0))] []))]}:St)) 1 (fun y=>o1=LR.out y) ?_ ?_ ?_
 ·refine Wk.of [(0,some 0)] rfl rfl ?_ ?_
  ·cbv;all_goals exact⟨⟨_,rfl,rfl⟩,⟨_,rfl,rfl⟩,⟨_,rfl,rfl⟩,⟨_,rfl,rfl⟩,trivial⟩
  cbv;all_goals exact⟨⟨_,rfl,_,rfl,rfl,rfl,trivial⟩,trivial⟩
 ·rintro⟨⟨n1,v1⟩,hn1,hi1,h_1⟩ hq1;try dsimp only at hn1 hi1 h_1
  clear hq1;cbv;rcases n1 with _|n1
  ·have hb1:le v1 60=false:=jR hg hn1;rw[cM] at h_1;try rw[←hg] at h_1
   try rw[←ht] at h_1
   try dsimp only at h_1
   rw[hb1];cbv;refine⟨(),Wk.of [(0,some 0)] rfl rfl ?_ ?_,(Option.some.inj h_1).symm⟩
   ·cbv;all_goals exact⟨⟨_,rfl,rfl⟩,trivial⟩
   cbv;all_goals exact⟨⟨_,rfl,_,rfl,rfl,rfl,trivial⟩,trivial⟩
  have hb1:le v1 60=true:=kL hg hn1;have hl1:=pZ hn1;have hs1:=mW hg hn1 hi1 (by decide) (by decide);rw[cM] at h_1;try rw[←hg] at h_1
  try rw[←ht] at h_1
  try dsimp only at h_1
  rw[hb1];cbv;obtain⟨x1,hx1,h_1⟩:=ae h_1;try dsimp only at h_1
  refine ACall.mk _ _ rfl (hF _ _ _ (ny hg ht hx1)) (.inl rfl) (nb rfl) ?_;cbv
  cases hb2:x1
  ·rw[aa hb2] at h_1;cbv;iterate 5 try(rw[hb2];cbv)
   try rw[hg] at h_1
   try rw[ht] at h_1
   refine⟨⟨(n1,(wrap .i64 (add v1 1))),hs1.1,hs1.2,h_1⟩,Wk.of [(0,some 0)] rfl rfl ?_ ?_,Nat.lt_succ_self _⟩
   ·cbv;all_goals exact⟨⟨_,rfl,rfl⟩,⟨_,rfl,rfl⟩,⟨_,rfl,rfl⟩,⟨_,rfl,rfl⟩,trivial⟩
   cbv;all_goals exact⟨⟨_,rfl,_,rfl,rfl,rfl,trivial⟩,trivial⟩
  rw[ab hb2] at h_1;cbv;iterate 2 try(rw[hb2];cbv)
  obtain⟨x2,hx2,h_1⟩:=ae h_1;try dsimp only at h_1
  refine ACall.mk _ _ rfl (hF _ _ _ (cA hg ht hx2)) (.inl rfl) (nb rfl) ?_;cbv;iterate 3 try(rw[hb2];cbv)
  cases hb3:(le a1 x2)
  ·rw[aa hb3] at h_1;cbv;iterate 4 try(rw[hb3];cbv)
   try rw[hg] at h_1
   try rw[ht] at h_1
   refine⟨⟨(n1,(wrap .i64 (add v1 1))),hs1.1,hs1.2,h_1⟩,Wk.of [(0,some 0)] rfl rfl ?_ ?_,Nat.lt_succ_self _⟩
   ·cbv;all_goals exact⟨⟨_,rfl,rfl⟩,⟨_,rfl,rfl⟩,⟨_,rfl,rfl⟩,⟨_,rfl,rfl⟩,trivial⟩
   cbv;all_goals exact⟨⟨_,rfl,_,rfl,rfl,rfl,trivial⟩,trivial⟩
  rw[ab hb3] at h_1;cbv;iterate 2 try(rw[hb3];cbv)
  obtain⟨x3,hx3,h_1⟩:=ag h_1;try dsimp only at h_1
  refine ACall.mk _ _ rfl (hF _ _ _ (wC hg ht hx3)) (.inl rfl) (nb rfl) ?_;cbv;iterate 2 try(rw[hb3];cbv)
  cases hb4:x3
  rotate_left
  ·rw[ab hb4] at h_1;cbv;iterate 12 try(rw[hb4];cbv)
   try rw[hg] at h_1
   try rw[ht] at h_1
   refine⟨⟨(n1,(wrap .i64 (add v1 1))),hs1.1,hs1.2,h_1⟩,Wk.of [(0,some 0)] rfl rfl ?_ ?_,Nat.lt_succ_self _⟩
   ·cbv;all_goals exact⟨⟨_,rfl,rfl⟩,⟨_,rfl,rfl⟩,⟨_,rfl,rfl⟩,⟨_,rfl,rfl⟩,trivial⟩
   cbv;all_goals exact⟨⟨_,rfl,_,rfl,rfl,rfl,trivial⟩,trivial⟩
  rw[aa hb4] at h_1;cbv;iterate 3 try(rw[hb4];cbv)
  obtain⟨hc1,h_1⟩:=aj h_1;refine AStep.mk hc1 ?_;cbv;obtain⟨x4,hx4,h_1⟩:=aH h_1;obtain⟨x4_From,x4_To,x4_Start,x4_Takes,x4_Days,x4_Room⟩:=x4;try dsimp only at h_1
  refine AGet.mk _ (aX hg ht hx4) ?_;cbv;iterate 5 try(rw[hb4];cbv)
  obtain⟨x5,hx5,h_1⟩:=ag h_1;try dsimp only at h_1
  refine ACall.mk _ _ rfl (hF _ _ _ (xl hg ht hx5)) (.inl rfl) (nb rfl) ?_;cbv;iterate 4 try(rw[hb4];cbv)
  cases hb5:(le a5 (wrap .i64 (sub x4_Room x5)))
  rotate_left
  ·rw[ab hb5] at h_1;cbv;obtain rfl:=Option.some.inj h_1;try dsimp only[lr,lrL,lrp,aW] at h
   obtain rfl:=Option.some.inj h;exact ARet.mk trivial hX.symm
  rw[aa hb5] at h_1;cbv;try rw[hg] at h_1
  try rw[ht] at h_1
  refine⟨⟨(n1,(wrap .i64 (add v1 1))),hs1.1,hs1.2,h_1⟩,Wk.of [(0,some 0)] rfl rfl ?_ ?_,Nat.lt_succ_self _⟩
  ·cbv;all_goals exact⟨⟨_,rfl,rfl⟩,⟨_,rfl,rfl⟩,⟨_,rfl,rfl⟩,⟨_,rfl,rfl⟩,trivial⟩
  cbv;all_goals exact⟨⟨_,rfl,_,rfl,rfl,rfl,trivial⟩,trivial⟩
 rintro _ hy1;replace hy1:=hy1.symm;subst hy1;try dsimp only[lr,lrL,lrp,aW] at h
 cbv;obtain rfl:=Option.some.inj h;exact ARet.mk trivial hX.symm
def callFd (g:G) (t:TE) (f:Fd) (x0:Int) (x1:Int):Option (Trip×Bool):=match f with
 |.I_nextOf_1 a0=>I_nextOf_1 g t x0 x1 a0
 |.I_freeOf_1 a0 a1 a2 a3=>I_freeOf_1 g t x0 x1 a0 a1 a2 a3
theorem uP {g:G} {t:TE} {f:Fd} {x0:Int} {x1:Int} {r:Trip×Bool} (hg:g=G.real) (ht:t=TE.real) (h:callFd g t f x0 x1=some r):∃(q:Nat) (bs:List (List R)),t.r_Fd f=.fn q bs∧(hC Tryz.prog q=true∧Fn Tryz.prog q ([.c (.v (.int .i64 x0)),.c (.v (.int .i64 x1))]++bs.map A.q) (.u [.g (Trip.ds t r.1),.c (.r (.v (.bool r.2)))])):=by
 cases f with
 |I_nextOf_1 a0=>
  exact⟨_,_,(k8 ht a0).symm,by kernel_rfl,uj hg ht h⟩
 |I_freeOf_1 a0 a1 a2 a3=>
  exact⟨_,_,(qQ ht a0 a1 a2 a3).symm,by kernel_rfl,t7 hg ht h⟩
def F6:J:=js [jq 5 (.box 0),jq 10 (.mv (.k (.c (.n 1))))] [1,2,3,4,5] (js [jl 23 3 5,jc 24 82 [23],jm 11 24] [1,2,3,4,5,11] (js [jm 25 11,jm 26 2,jc 27 84 [25,26],jm 12 27] [1,3,4,5,11,12] (.seq (js [jm 28 12,jb 29 .lss .i 28 (ki 0),jm 30 29,jv 31 30 (.mv 3),jv 32 30 (.bin .gtr .i 31 (ki 100000)),jq 33 (.pick 30 kt 32),jm 34 33,jv 35 34 (.mv 4),jv 36 34 (.bin .lss .i 35 (ki 0)),jq 37 (.pick 34 kt 36)] [1,3,4,5,11,12,37] (.cond 37 (js [jq 10 (.mv (.k (.c (.n 1))))] [10] .ret) .skip)) (js [jq 38 (.bsl 1 []),jm 13 38] [1,3,4,5,11,12,13] (.seq (js [jm 39 11,jq 40 (.len false 39),jm 41 (ki 0)] [1,3,4,5,11,12,13,40,41] (.bl 0 (js [jb 42 .lss .i 41 40] [1,3,4,5,11,12,13,40,41,42] (.seq (.cond 42 .skip (.exit 0)) (.seq (.block 1 (.reg none [jm 43 13,jq 44 (.bsl 1 [(.k (V.i (-1)))]),jq 45 (.app 1 8 true 43 44),jm 13 45] [1,3,4,5,11,12,13,40,41])) (.reg none [jb 46 .add .i 41 (ki 1),jm 41 46] [1,3,4,5,11,12,13,40,41])))))) (js [jm 47 13,jm 48 12,jm 49 3,jq 50 (.mnx true 49 (ki 0)),ja 51 1 47 48,jp (.st 1 51 50)] [1,4,5,11,12,13] (.seq (js [jm 14 (ki 0)] [1,4,5,11,12,13,14] (.bl 2 (.seq (js [jm 52 14,jm 53 4,jb 54 .lss .i 52 53] [1,4,5,11,12,13,14,54] (.cond 54 .skip (.exit 2))) (.seq (.block 3 (js [jq 57 (.bsl 1 []),jm 58 13,jq 59 (.app 1 8 false 57 58),jm 15 59] [1,4,5,11,12,13,14,15] (js [jm 16 kf] [1,4,5,11,12,13,14,15,16] (.seq (js [jf 60 0 5,jk 61 60,jq 62 (.len false 61),jm 63 (ki 0)] [1,4,5,11,12,13,14,15,16,61,62,63] (.bl 4 (js [jb 64 .lss .i 63 62] [1,4,5,11,12,13,14,15,16,61,62,63,64] (.seq (.cond 64 .skip (.exit 4)) (.seq (.block 5 (js [jm 65 63,ja 66 6 61 63,jl 67 6 66,jq 18 (.alloc [.r (.v (.string .empty)),.r (.v (.string .empty)),.r (.v (.int .i64 0)),.r (.v (.int .i64 0)),.r (.v (.int .i64 0)),.r (.v (.int .i64 0))]),jm 17 65,jp (.st 6 18 67)] [1,4,5,11,12,13,14,15,16,17,18,61,62,63] (js [jm 68 11,jf 69 0 18,jk 70 69,jc 71 84 [68,70],jm 19 71] [1,4,5,11,12,13,14,15,16,17,18,19,61,62,63] (js [jm 72 11,jf 73 1 18,jk 74 73,jc 75 84 [72,74],jm 20 75] [1,4,5,11,12,13,14,15,16,17,19,20,61,62,63] (.seq (js [jm 76 13,jm 77 19,ja 78 1 76 77,jk 79 78,jb 80 .lss .i 79 (ki 0)] [1,4,5,11,12,13,14,15,16,17,19,20,61,62,63,80] (.cond 80 (.exit 5) .skip)) (.seq (.reg (some [[],[],[],[],[],[3,4],[3,4,5],[],[],[7,8],[2,3,4,5,6,7,8,9],[0,1,2,3,4,5,6,7,8,9,10],[0,1,2,3,4,5,6,7,8,9,10,11],[0,1,2,3,4,5,6,7,8,9,10,11,12],[0,1,2,3,4,5,6,7,8,9,10,11,12],[],[0,1,2,3,4,5,6,7,8,9,10,11,12,13,15],[0,1,2,3,4,5,6,7,8,9,10,11,12,13,14,15,16]]) [jm 82 1,jm 83 17,jl 84 3 5,jm 85 13,jm 86 19,ja 87 1 85 86,jk 88 87,jm 89 19,jm 90 12,jb 91 .eql .i 89 90,jc 92 149 [84,88,91],jq 93 (.callv true 82 [83,92]),jm 81 93,jq 94 (.ext 0 81),
 jq 95 (.ext 1 81),jq 21 (.alloc [.r (.v (.int .i64 0)),.r (.v (.int .i64 0))]),jp (.st 2 21 94),jm 22 95] [1,4,5,11,12,13,14,15,16,20,21,22,61,62,63]) (.seq (.reg (some [[],[0],[0,1],[0,1],[0,1,2,3],[0,1,2,3,4],[0,1,2,3,4,5],[0,1,2,3,4,5,6],[0,1,2,3,4,5,6,7],[0,1,2,3,4,5,6,7],[0,1,2,3,4,5,6,7,8,9],[0,1,2,3,4,5,6,7],[0,1,2,3,4,5,6,7],[0,1,2,3,4,5,6,7,11,12],[0,1,2,3,4,5,6,7,11,12,13],[0,1,2,3,4,5,6,7,8,9,10,11,12,13,14],[0,1,2,3,4,5,6,7,8,9,10,11,12,13,14,15],[0,1,2,3,4,5,6,7,8,9,10,11,12,13,14,15,16]]) [jm 96 22,jm 97 96,ju 98 97 (.mv 15),ju 99 97 (.mv 20),ju 100 97 (.ia 1 98 99),ju 101 97 (.ld false 1 100),ju 102 97 (.bin .lss .i 101 (ki 0)),ju 103 97 (.mv 102),jv 104 103 (.ld true 3 5),jv 105 103 (.ld true 2 21),jv 106 103 (.call 86 true [104,105]),jv 107 103 (.mv 15),jv 108 103 (.mv 20),jv 109 103 (.ia 1 107 108),jv 110 103 (.ld false 1 109),jv 111 103 (.bin .lss .i 106 110),ju 112 97 (.pick 103 kt 111),jq 113 (.pick 97 112 kf)] [1,4,5,11,12,13,14,15,16,20,21,61,62,63,113]) (.cond 113 (js [jm 114 15,jm 115 20,jl 116 3 5,jl 117 2 21,jc 118 86 [116,117],ja 119 1 114 115,jp (.st 1 119 118)] [1,4,5,11,12,13,14,15,61,62,63] (.reg none [jm 16 kt] [1,4,5,11,12,13,14,15,16,61,62,63])) .skip)))))))) (.reg none [jb 120 .add .i 63 (ki 1),jm 63 120] [1,4,5,11,12,13,14,15,16,61,62,63])))))) (js [jm 121 15,jm 13 121] [1,4,5,11,12,13,14,16] (js [jm 122 16,jq 123 (.not 122)] [1,4,5,11,12,13,14,123] (.cond 123 (.exit 2) .skip))))))) (.reg none [jm 55 14,jb 56 .add .i 55 (ki 1),jm 14 56] [1,4,5,11,12,13,14]))))) (js [jm 124 13,jm 10 124] [10] .ret))))))))
def GL:List RV:=[.t 10]
def bf (g:G) (t:TE) (a0:Network) (a1:Fd) (w2:List Int) (x1:List ByteArray) (x2:Int):List Leg→Int→List Int→Bool→Option ((List Int)×Bool)
 |[],v4,w3,v3=>
  some (w3,v3)
 |z3::ls3,v4,w3,v3=>
  lP (cv g t x1 z3.From) fun x4=>
  lP (cv g t x1 z3.To) fun x5=>
  gd (((0:Int)≤x4∧x4<(((g.dlen (t.d_I64 w2)):Nat):Int)))<|
  gt w2 (g.nat x4) fun x6=>
  br (g.lt x6 0)
  (
   bf g t a0 a1 w2 x1 x2 ls3 (g.wrap .i64 (g.add v4 1)) w3 v3)
  (
   gd (((0:Int)≤x4∧x4<(((g.dlen (t.d_I64 w2)):Nat):Int)))<|
   lP (fM g t a0 x6 (g.eq x4 x2)) fun x7=>
   cl (callFd g t a1 v4 x7) fun x8=>
   br x8.2
   (
    gd (((0:Int)≤x5∧x5<(((g.dlen (t.d_I64 w3)):Nat):Int)))<|
    gt w3 (g.nat x5) fun x9=>
    br (g.lt x9 0)
    (
     cl (eu g t a0 (Trip.mk x8.1.Leg x8.1.Day)) fun x10=>
     gd (((0:Int)≤x5∧x5<(((g.dlen (t.d_I64 w3)):Nat):Int)))<|
     lP (List.set w3 (g.nat x5) x10) fun(l7:List Int)=>
     bf g t a0 a1 w2 x1 x2 ls3 (g.wrap .i64 (g.add v4 1)) l7 true)
    (
     cl (eu g t a0 (Trip.mk x8.1.Leg x8.1.Day)) fun x11=>
     gd (((0:Int)≤x5∧x5<(((g.dlen (t.d_I64 w3)):Nat):Int)))<|
     br (g.lt x11 x9)
     (
      cl (eu g t a0 (Trip.mk x8.1.Leg x8.1.Day)) fun x12=>
      gd (((0:Int)≤x5∧x5<(((g.dlen (t.d_I64 w3)):Nat):Int)))<|
      lP (List.set w3 (g.nat x5) x12) fun(l8:List Int)=>
      bf g t a0 a1 w2 x1 x2 ls3 (g.wrap .i64 (g.add v4 1)) l8 true)
     (
      bf g t a0 a1 w2 x1 x2 ls3 (g.wrap .i64 (g.add v4 1)) w3 v3)))
   (
    bf g t a0 a1 w2 x1 x2 ls3 (g.wrap .i64 (g.add v4 1)) w3 v3))
def cQ (g:G) (t:TE) (a0:Network) (a1:Fd) (x1:List ByteArray) (x2:Int):Nat→List Int→Option (List Int)
 |0,w2=>
  some w2
 |n2+1,w2=>
  lP ([]) fun(l5:List Int)=>
  gd (((l5.length+w2.length)*8≤70368744177664))<|
  lP (l5++w2) fun(l6:List Int)=>
  cl (bf g t a0 a1 w2 x1 x2 a0.Legs 0 l6 false) fun y2=>
  br y2.2
  (
   cQ g t a0 a1 x1 x2 n2 y2.1)
  (
   some y2.1)
def cP (g:G) (t:TE):Nat→List Int→Option (List Int)
 |0,w1=>
  some w1
 |n1+1,w1=>
  lP ([(-1)]) fun(l2:List Int)=>
  gd (((w1.length+l2.length)*8≤70368744177664))<|
  lP (w1++l2) fun(l3:List Int)=>
  cP g t n1 l3
def gB (g:G) (t:TE) (a0:Network) (a1:Fd) (a2:ByteArray) (a3:Int) (a4:Int):Option (List Int):=
 cl (dA g t a0) fun x1=>
 lP (cv g t x1 a2) fun x2=>
 br (g.lt x2 0)
 (
  some [])
 (
  br (g.lt 100000 a3)
  (
   some [])
  (
   br (g.lt a4 0)
   (
    some [])
   (
    lP ([]) fun(l1:List Int)=>
    gd (((g.int (g.dlen (t.d_S x1)))≤9223372036854775807))<|
    cl (cP g t (aA 0 (g.int (g.dlen (t.d_S x1)))) l1) fun y1=>
    gd (((0:Int)≤x2∧x2<(((g.dlen (t.d_I64 y1)):Nat):Int)))<|
    gt y1 (g.nat x2) fun x3=>
    lP (List.set y1 (g.nat x2) (g.imax a3 0)) fun(l4:List Int)=>
    gd ((a4≤9223372036854775807))<|
    cl (cQ g t a0 a1 x1 x2 (aA 0 a4) l4) fun y3=>
    some y3)))
theorem nF {g:G} {t:TE} {a0:Network} {a1:Fd} {a2:ByteArray} {a3:Int} {a4:Int} {r:List Int} (hg:g=G.real) (ht:t=TE.real) (h:gB g t a0 a1 a2 a3 a4=some r):Fn Tryz.prog 109 [.g (Network.rs t a0),.c (t.r_Fd a1),.c (.v (.string a2)),.c (.v (.int .i64 a3)),.c (.v (.int .i64 a4))] (.c (.o 1 (t.d_I64 r))):=by
 obtain⟨X,hX⟩:=aE (.c (.o 1 (t.d_I64 r)):X);rw[←hX];refine az (rvs:=GL) (j:=F6) Tryz.func109 rfl (by kernel_rfl) (nb rfl) (by kernel_rfl) ac ?_;intro g2 F hg2 hF;obtain rfl:g2=g:=hg2.unique.trans hg.symm;clear hg2;obtain⟨wrap,lt,_,_,_,_,_,_,_,_,_,_,int,add,_,_,_,_,_,_,_,llen,_,_,dlen,_,_,_,rd,_,_,_,_,_,_,_,_,_,_,_,_,imax⟩:=g2;obtain⟨_,_,_,_,r_Leg,_,r_I64,d_I64,_,_,_,_,r_S,d_S,_,_,r_Fd⟩:=t
 obtain⟨a0_Legs,a0_Off,a0_Change⟩:=a0;have hnil_I64:d_I64 []=[]:=ln ht;unfold gB at h;try dsimp only at h
 cbv;obtain⟨x1,hx1,h⟩:=ae h;try dsimp only at h
 refine ACall.mk _ _ rfl (hF _ _ _ (eT hg ht hx1)) (.inl rfl) (nb rfl) ?_;cbv;refine AStep.mk (ez ht (ap hg ht _)) ?_;cbv;obtain⟨x2,hx2,h⟩:=ag h;try dsimp only at h
 refine ACall.mk _ _ (by rw[show rd (d_S x1) 0 (dlen (d_S x1))=r_S x1 from gV hg ht (ap hg ht _)];try rfl) (hF _ _ _ (dk hg ht hx2)) (.inr rfl) (nb rfl) ?_
 cbv
 cases hb1:(lt x2 0)
 rotate_left
 ·rw[ab hb1] at h;cbv;iterate 2 try(rw[hb1];cbv)
  obtain rfl:=Option.some.inj h;exact ARet.mk trivial (by rw[hX];first|rfl|(simp only[Trip.ds,Scan.ds,Leg.ds,Network.ds,Booking.ds,Belief.ds,Cur.ds,Spot.ds,Know.ds,hnil_I64];try rfl))
 rw[aa hb1] at h;cbv;iterate 2 try(rw[hb1];cbv)
 cases hb2:(lt 100000 a3)
 rotate_left
 ·rw[ab hb2] at h;cbv;iterate 2 try(rw[hb2];cbv)
  obtain rfl:=Option.some.inj h;exact ARet.mk trivial (by rw[hX];first|rfl|(simp only[Trip.ds,Scan.ds,Leg.ds,Network.ds,Booking.ds,Belief.ds,Cur.ds,Spot.ds,Know.ds,hnil_I64];try rfl))
 rw[aa hb2] at h;cbv;iterate 2 try(rw[hb2];cbv)
 cases hb3:(lt a4 0)
 rotate_left
 ·rw[ab hb3] at h;cbv;obtain rfl:=Option.some.inj h;exact ARet.mk trivial (by rw[hX];first|rfl|(simp only[Trip.ds,Scan.ds,Leg.ds,Network.ds,Booking.ds,Belief.ds,Cur.ds,Spot.ds,Know.ds,hnil_I64];try rfl))
 rw[aa hb3] at h;cbv;obtain⟨l1,hl1,h⟩:=ag h;try dsimp only at h
 refine ANew.mk (d_I64 l1) (dlen (d_I64 l1)) (by rw[←hl1];exact d6 hg ht []) (by rw[←hl1];exact dm hg ht []) ?_;cbv;obtain⟨hB1,h⟩:=aj h;obtain⟨o1,ho1,h⟩:=ae h;try dsimp only at h
 try rw[hg] at ho1
 try rw[ht] at ho1
 refine ABL.mk {p:Nat×Int×List Int//p.1=aA p.2.1 (int (dlen (d_S x1)))∧0≤p.2.1∧cP G.real TE.real p.1 p.2.2=some o1} (fun⟨⟨n1,v1,w1⟩,_⟩=>({sl:=[(1,.c (.r (r_Fd a1))),(3,.c (.r (.v (.int .i64 a3)))),(4,.c (.r (.v (.int .i64 a4)))),(5,.c (.p 0 3 0 0)),(11,.c (.f 1 1 0 (dlen (d_S x1)))),(12,.c (.r (.v (.int .i64 x2)))),(13,.c (.f 2 1 0 (dlen (d_I64 w1)))),(40,.c (.r (.v (.int .i64 (int (dlen (d_S x1))))))),(41,.c (.r (.v (.int .i64 v1))))],tab:=[(0,some (.foc 3 [] [.r (.s 6 (r_Leg a0_Legs)),.r (.s 1 (r_I64 a0_Off)),.r (.v (.int .i64 a0_Change))] [])),(1,some (.arr 1 (d_S x1))),(2,some (.arr 1 (d_I64 w1)))]}:St)) 3 (fun p=>p.1.1) ⟨(aA 0 (int (dlen (d_S x1))),0,l1),rfl,Int.le_refl _,ho1⟩ (List Int) (fun y1=>({sl:=[(1,.c (.r (r_Fd a1))),(3,.c (.r (.v (.int .i64 a3)))),(4,.c (.r (.v (.int .i64 a4)))),(5,.c (.p 0 3 0 0)),(11,.c (.f 1 1 0 (dlen (d_S x1)))),(12,.c (.r (.v (.int .i64 x2)))),(13,.c (.f 2 1 0 (dlen (d_I64 y1))))],tab:=[(0,some (.foc 3 [] [.r (.s 6 (r_Leg a0_Legs)),.r (.s 1 (r_I64 a0_Off)),.r (.v (.int .i64 a0_Change))] [])),(1,some (.arr 1 (d_S x1))),(2,some (.arr 1 (d_I64 y1)))]}:St)) 3 (fun y=>o1=y) ?_ ?_ ?_
 ·refine Wk.of [(0,some 0),(1,some 48),(2,some 304)] rfl rfl ?_ ?_
  ·cbv;all_goals exact⟨⟨_,rfl,rfl⟩,⟨_,rfl,rfl⟩,⟨_,rfl,rfl⟩,⟨_,rfl,rfl⟩,⟨_,rfl,rfl⟩,⟨_,rfl,rfl⟩,⟨_,rfl,rfl⟩,⟨_,rfl,rfl⟩,⟨_,rfl,rfl⟩,trivial⟩
  cbv;all_goals exact⟨⟨_,rfl,_,rfl,rfl,rfl,rfl,trivial⟩,⟨_,rfl,rfl⟩,⟨_,rfl,rfl⟩,trivial⟩
 ·rintro⟨⟨n1,v1,w1⟩,hn1,hi1,h_1⟩ hq1;try dsimp only at hn1 hi1 h_1
  clear hq1;cbv;rcases n1 with _|n1
  ·have hb4:lt v1 (int (dlen (d_S x1)))=false:=cu hg hn1;rw[cP] at h_1;try rw[←hg] at h_1
   try rw[←ht] at h_1
   try dsimp only at h_1
   rw[hb4];cbv;refine⟨w1,Wk.of [(0,some 0),(1,some 1),(2,some 2)] rfl rfl ?_ ?_,(Option.some.inj h_1).symm⟩
   ·cbv;all_goals exact⟨⟨_,rfl,rfl⟩,⟨_,rfl,rfl⟩,⟨_,rfl,rfl⟩,⟨_,rfl,rfl⟩,⟨_,rfl,rfl⟩,⟨_,rfl,rfl⟩,⟨_,rfl,rfl⟩,trivial⟩
   cbv;all_goals exact⟨⟨_,rfl,_,rfl,rfl,rfl,rfl,trivial⟩,⟨_,rfl,rfl⟩,⟨_,rfl,rfl⟩,trivial⟩
  have hb4:lt v1 (int (dlen (d_S x1)))=true:=dj hg hn1;have hl1:=gk hn1;have hs1:=ef hg hn1 hi1 hB1 (by decide);rw[cP] at h_1;try rw[←hg] at h_1
  try rw[←ht] at h_1
  try dsimp only at h_1
  rw[hb4];cbv;obtain⟨l2,hl2,h_1⟩:=ag h_1;try dsimp only at h_1
  refine ANew.mk (d_I64 l2) (dlen (d_I64 l2)) (by rw[←hl2];exact d6 hg ht [(-1)]) (by rw[←hl2];exact dm hg ht [(-1)]) ?_;cbv;obtain⟨hc1,h_1⟩:=aj h_1;refine AStep.mk ⟨⟨rfl,(ak hg ht _)⟩,(gG hg ht (ak hg ht _) rfl hc1)⟩ ?_;cbv;obtain⟨l3,hl3,h_1⟩:=ag h_1;try dsimp only at h_1
  refine ANew.mk (d_I64 l3) (dlen (d_I64 l3)) (by rw[←hl3];exact lz hg ht (ak hg ht _) rfl) (by rw[←hl3];exact jM hg ht (ak hg ht _) rfl) ?_;cbv;try rw[hg] at h_1
  try rw[ht] at h_1
  refine⟨⟨(n1,(wrap .i64 (add v1 1)),l3),hs1.1,hs1.2,h_1⟩,Wk.of [(0,some 0),(1,some 1),(2,some 51)] rfl rfl ?_ ?_,Nat.lt_succ_self _⟩
  ·cbv;all_goals exact⟨⟨_,rfl,rfl⟩,⟨_,rfl,rfl⟩,⟨_,rfl,rfl⟩,⟨_,rfl,rfl⟩,⟨_,rfl,rfl⟩,⟨_,rfl,rfl⟩,⟨_,rfl,rfl⟩,⟨_,rfl,rfl⟩,⟨_,rfl,rfl⟩,trivial⟩
  cbv;all_goals exact⟨⟨_,rfl,_,rfl,rfl,rfl,rfl,trivial⟩,⟨_,rfl,rfl⟩,⟨_,rfl,rfl⟩,trivial⟩
 rintro y1 hy1;replace hy1:=hy1.symm;subst hy1;try dsimp only[lr,lrL,lrp,aW] at h
 cbv;obtain⟨hc2,h⟩:=aj h;refine AStep.mk hc2 ?_;cbv;obtain⟨x3,hx3,h⟩:=aH h;try dsimp only at h
 refine AGet.mk _ (bp hg ht hx3) ?_;cbv;obtain⟨l4,hl4,h⟩:=ag h;try dsimp only at h
 refine ANew.mk (d_I64 l4) _ (by rw[←hl4];exact kJ hg ht _ _ (imax a3 0)) rfl ?_;have hnl4:(dlen (d_I64 y1))=(d_I64 l4).length:=(by rw[←hl4,jz ht];exact(ak hg ht _));cbv;obtain⟨hB2,h⟩:=aj h;obtain⟨o2,ho2,h⟩:=ae h;try dsimp only at h
 try rw[hg] at ho2
 try rw[ht] at ho2
 refine ABL.mk {p:Nat×Int×List Int//p.1=aA p.2.1 a4∧0≤p.2.1∧cQ G.real TE.real (Network.mk a0_Legs a0_Off a0_Change) a1 x1 x2 p.1 p.2.2=some o2} (fun⟨⟨n2,v2,w2⟩,_⟩=>({sl:=[(1,.c (.r (r_Fd a1))),(4,.c (.r (.v (.int .i64 a4)))),(5,.c (.p 0 3 0 0)),(11,.c (.f 1 1 0 (dlen (d_S x1)))),(12,.c (.r (.v (.int .i64 x2)))),(13,.c (.f 2 1 0 (dlen (d_I64 w2)))),(14,.c (.r (.v (.int .i64 v2))))],tab:=[(0,some (.foc 3 [] [.r (.s 6 (r_Leg a0_Legs)),.r (.s 1 (r_I64 a0_Off)),.r (.v (.int .i64 a0_Change))] [])),(1,some (.arr 1 (d_S x1))),(2,some (.arr 1 (d_I64 w2)))]}:St)) 3 (fun p=>p.1.1) ⟨(aA 0 a4,0,l4),rfl,Int.le_refl _,ho2⟩ (List Int) (fun y3=>({sl:=[(13,.c (.f 0 1 0 (dlen (d_I64 y3))))],tab:=[(0,some (.arr 1 (d_I64 y3)))]}:St)) 1 (fun y=>o2=y) ?_ ?_ ?_
 ·refine Wk.of [(0,some 0),(1,some 1),(2,some 2)] rfl rfl ?_ ?_
  ·cbv;all_goals try rw[show(dlen (d_I64 y1))=(dlen (d_I64 l4)) from(hnl4).trans (ak hg ht _).symm]
   all_goals exact⟨⟨_,rfl,rfl⟩,⟨_,rfl,rfl⟩,⟨_,rfl,rfl⟩,⟨_,rfl,rfl⟩,⟨_,rfl,rfl⟩,⟨_,rfl,rfl⟩,⟨_,rfl,rfl⟩,trivial⟩
  cbv;all_goals try rw[show(dlen (d_I64 y1))=(dlen (d_I64 l4)) from(hnl4).trans (ak hg ht _).symm]
  all_goals exact⟨⟨_,rfl,_,rfl,rfl,rfl,rfl,trivial⟩,⟨_,rfl,rfl⟩,⟨_,rfl,rfl⟩,trivial⟩
 ·rintro⟨⟨n2,v2,w2⟩,hn2,hi2,h_2⟩ hq2;try dsimp only at hn2 hi2 h_2
  clear hq2;cbv;rcases n2 with _|n2
  ·have hb5:lt v2 a4=false:=cu hg hn2;rw[cQ] at h_2;try rw[←hg] at h_2
   try rw[←ht] at h_2
   try dsimp only at h_2
   rw[hb5];cbv;refine⟨w2,Wk.of [(0,some 2)] rfl rfl ?_ ?_,(Option.some.inj h_2).symm⟩
   ·cbv;all_goals exact⟨⟨_,rfl,rfl⟩,trivial⟩
   cbv;all_goals exact⟨⟨_,rfl,rfl⟩,trivial⟩
  have hb5:lt v2 a4=true:=dj hg hn2;have hl2:=gk hn2;have hs2:=ef hg hn2 hi2 hB2 (by decide);rw[cQ] at h_2;try rw[←hg] at h_2
  try rw[←ht] at h_2
  try dsimp only at h_2
  rw[hb5];cbv;obtain⟨l5,hl5,h_2⟩:=ag h_2;try dsimp only at h_2
  refine ANew.mk (d_I64 l5) (dlen (d_I64 l5)) (by rw[←hl5];exact d6 hg ht []) (by rw[←hl5];exact dm hg ht []) ?_;cbv;obtain⟨hc9,h_2⟩:=aj h_2;refine AStep.mk ⟨(vp hg ht (ak hg ht _)),(gG hg ht (ak hg ht _) (oB hg ht (ak hg ht _)) hc9)⟩ ?_;cbv;obtain⟨l6,hl6,h_2⟩:=ag h_2;try dsimp only at h_2
  refine ANew.mk (d_I64 l6) (dlen (d_I64 l6)) (by rw[←hl6];exact lz hg ht (ak hg ht _) (oB hg ht (ak hg ht _))) (by rw[←hl6];exact jM hg ht (ak hg ht _) (oB hg ht (ak hg ht _))) ?_;cbv;obtain⟨o3,ho3,h_2⟩:=ae h_2;try dsimp only at h_2
  try rw[hg] at ho3
  try rw[ht] at ho3
  refine ABL.mk {p:Nat×Int×(List Int)×Bool//p.1≤a0_Legs.length∧p.2.1=((p.1:Nat):Int)∧bf G.real TE.real (Network.mk a0_Legs a0_Off a0_Change) a1 w2 x1 x2 (List.drop p.1 a0_Legs) p.2.1 p.2.2.1 p.2.2.2=some o3} (fun⟨⟨k3,v4,w3,v3⟩,_⟩=>({sl:=[(1,.c (.r (r_Fd a1))),(4,.c (.r (.v (.int .i64 a4)))),(5,.c (.p 0 3 0 0)),(11,.c (.f 1 1 0 (dlen (d_S x1)))),(12,.c (.r (.v (.int .i64 x2)))),(13,.c (.f 2 1 0 (dlen (d_I64 w2)))),(14,.c (.r (.v (.int .i64 v2)))),(15,.c (.f 3 1 0 (dlen (d_I64 w3)))),(16,.c (.r (.v (.bool v3)))),(61,.c (.r (.s 6 (r_Leg a0_Legs)))),(62,.c (.r (.v (.int .i64 (llen (r_Leg a0_Legs)))))),(63,.c (.r (.v (.int .i64 v4))))],tab:=[(0,some (.foc 3 [] [.r (.s 6 (r_Leg a0_Legs)),.r (.s 1 (r_I64 a0_Off)),.r (.v (.int .i64 a0_Change))] [])),(1,some (.arr 1 (d_S x1))),(2,some (.arr 1 (d_I64 w2))),(3,some (.arr 1 (d_I64 w3)))]}:St)) 4 (fun p=>a0_Legs.length-p.1.1) ⟨(0,0,l6,false),Nat.zero_le _,rfl,ho3⟩ ((List Int)×Bool) (fun⟨y2_1,y2_2⟩=>({sl:=[(1,.c (.r (r_Fd a1))),(4,.c (.r (.v (.int .i64 a4)))),(5,.c (.p 0 3 0 0)),(11,.c (.f 1 1 0 (dlen (d_S x1)))),(12,.c (.r (.v (.int .i64 x2)))),(14,.c (.r (.v (.int .i64 v2)))),(15,.c (.f 2 1 0 (dlen (d_I64 y2_1)))),(16,.c (.r (.v (.bool y2_2))))],tab:=[(0,some (.foc 3 [] [.r (.s 6 (r_Leg a0_Legs)),.r (.s 1 (r_I64 a0_Off)),.r (.v (.int .i64 a0_Change))] [])),(1,some (.arr 1 (d_S x1))),(2,some (.arr 1 (d_I64 y2_1)))]}:St)) 3 (fun y=>o3=y) ?_ ?_ ?_
  ·refine Wk.of [(0,some 0),(1,some 1),(2,some 2),(3,some 83)] rfl rfl ?_ ?_
   ·cbv;all_goals exact⟨⟨_,rfl,rfl⟩,⟨_,rfl,rfl⟩,⟨_,rfl,rfl⟩,⟨_,rfl,rfl⟩,⟨_,rfl,rfl⟩,⟨_,rfl,rfl⟩,⟨_,rfl,rfl⟩,⟨_,rfl,rfl⟩,⟨_,rfl,rfl⟩,⟨_,rfl,rfl⟩,⟨_,rfl,rfl⟩,⟨_,rfl,rfl⟩,trivial⟩
   cbv;all_goals exact⟨⟨_,rfl,_,rfl,rfl,rfl,rfl,trivial⟩,⟨_,rfl,rfl⟩,⟨_,rfl,rfl⟩,⟨_,rfl,rfl⟩,trivial⟩
  ·rintro⟨⟨k3,v4,w3,v3⟩,hk3,hi3,h_3⟩ hq3;have hm3:=(hq3.1 61 _ _ rfl);try dsimp only at hk3 hi3 h_3
   clear hq3;cbv
   by_cases hc3_:k3<a0_Legs.length
   ·have hb6:lt v4 (llen (r_Leg a0_Legs))=true:=dg hg ht hi3 hc3_;have hs3:=fG hg ht hi3 hc3_ hm3;obtain⟨z3,hz3⟩:=aD hc3_;rw[aw hz3] at h_3;rw[bf] at h_3;obtain⟨z3_From,z3_To,z3_Start,z3_Takes,z3_Days,z3_Room⟩:=z3;try rw[←hg] at h_3
    try rw[←ht] at h_3
    try dsimp only at h_3
    rw[hb6];cbv;refine AStep.mk (fB hi3) ?_;cbv;refine AGet.mk _ (dV hg ht hi3 hz3) ?_;cbv;refine AStep.mk (ez ht (ap hg ht _)) ?_;cbv;obtain⟨x4,hx4,h_3⟩:=ag h_3;try dsimp only at h_3
    refine ACall.mk _ _ (by rw[show rd (d_S x1) 0 (dlen (d_S x1))=r_S x1 from gV hg ht (ap hg ht _)];try rfl) (hF _ _ _ (dk hg ht hx4)) (.inr rfl) (nb rfl) ?_
    cbv;refine AStep.mk (ez ht (ap hg ht _)) ?_;cbv;obtain⟨x5,hx5,h_3⟩:=ag h_3;try dsimp only at h_3
    refine ACall.mk _ _ (by rw[show rd (d_S x1) 0 (dlen (d_S x1))=r_S x1 from gV hg ht (ap hg ht _)];try rfl) (hF _ _ _ (dk hg ht hx5)) (.inr rfl) (nb rfl) ?_
    cbv;obtain⟨hc3,h_3⟩:=aj h_3;refine AStep.mk hc3 ?_;cbv;obtain⟨x6,hx6,h_3⟩:=aH h_3;try dsimp only at h_3
    refine AGet.mk _ (bp hg ht hx6) ?_;cbv
    cases hb7:(lt x6 0)
    rotate_left
    ·rw[ab hb7] at h_3;cbv;try rw[hg] at h_3
     try rw[ht] at h_3
     refine⟨⟨(k3+1,(wrap .i64 (add v4 1)),w3,v3),hc3_,hs3,h_3⟩,Wk.of [(0,some 0),(1,some 1),(2,some 2),(3,some 3)] rfl rfl ?_ ?_,aJ hc3_⟩
     ·cbv;all_goals exact⟨⟨_,rfl,rfl⟩,⟨_,rfl,rfl⟩,⟨_,rfl,rfl⟩,⟨_,rfl,rfl⟩,⟨_,rfl,rfl⟩,⟨_,rfl,rfl⟩,⟨_,rfl,rfl⟩,⟨_,rfl,rfl⟩,⟨_,rfl,rfl⟩,⟨_,rfl,rfl⟩,⟨_,rfl,rfl⟩,⟨_,rfl,rfl⟩,trivial⟩
     cbv;all_goals exact⟨⟨_,rfl,_,rfl,rfl,rfl,rfl,trivial⟩,⟨_,rfl,rfl⟩,⟨_,rfl,rfl⟩,⟨_,rfl,rfl⟩,trivial⟩
    rw[aa hb7] at h_3;cbv;obtain⟨hc4,h_3⟩:=aj h_3;refine AStep.mk hc4 ?_;cbv;refine AGet.mk _ (bp hg ht hx6) ?_;cbv;obtain⟨x7,hx7,h_3⟩:=ag h_3;try dsimp only at h_3
    refine ACall.mk _ _ rfl (hF _ _ _ (o8 hg ht hx7)) (.inl rfl) (nb rfl) ?_;cbv;obtain⟨x8,hx8,h_3⟩:=ae h_3;obtain⟨⟨x8_1_Leg,x8_1_Day⟩,x8_2⟩:=x8;try dsimp only at h_3
    obtain⟨f_,bs_,hr_,hc_⟩:=uP hg ht hx8;refine ACallV.mk f_ bs_ _ _ hr_ rfl (hF _ _ _ hc_) (.inl rfl) (nb rfl) ?_;clear hr_ hc_;cbv;have hb8:x8_2=true∨x8_2=false:=by cases x8_2<;>simp
    rcases hb8 with hb8|hb8
    ·rw[ab hb8] at h_3;have hK_:=h_3;subst hb8;have h_3:=hK_;clear hK_;cbv;iterate 2 try(rw[hb8];cbv)
     obtain⟨hc5,h_3⟩:=aj h_3;refine AStep.mk hc5 ?_;cbv;try(rw[hb8];cbv)
     obtain⟨x9,hx9,h_3⟩:=aH h_3;try dsimp only at h_3
     refine AGet.mk _ (bp hg ht hx9) ?_;cbv;iterate 2 try(rw[hb8];cbv)
     cases hb9:(lt x9 0)
     rotate_left
     ·rw[ab hb9] at h_3;cbv;iterate 7 try(rw[hb9];cbv)
      try(rw[hb8];cbv)
      try(rw[hb9];cbv)
      try(rw[hb8];cbv)
      obtain⟨x10,hx10,h_3⟩:=ae h_3;try dsimp only at h_3
      refine ACall.mk _ _ rfl (hF _ _ _ (d9 hg ht hx10)) (.inl rfl) (nb rfl) ?_;cbv;obtain⟨hc6,h_3⟩:=aj h_3;refine AStep.mk hc6 ?_;cbv;refine AGet.mk _ (bp hg ht hx9) ?_;cbv;obtain⟨l7,hl7,h_3⟩:=ag h_3;try dsimp only at h_3
      refine ANew.mk (d_I64 l7) _ (by rw[←hl7];exact kJ hg ht _ _ x10) rfl ?_;have hnl7:(dlen (d_I64 w3))=(d_I64 l7).length:=(by rw[←hl7,jz ht];exact(ak hg ht _));cbv;try rw[hg] at h_3
      try rw[ht] at h_3
      refine⟨⟨(k3+1,(wrap .i64 (add v4 1)),l7,true),hc3_,hs3,h_3⟩,Wk.of [(0,some 0),(1,some 1),(2,some 2),(3,some 3)] rfl rfl ?_ ?_,aJ hc3_⟩
      ·cbv;all_goals try rw[show(dlen (d_I64 w3))=(dlen (d_I64 l7)) from(hnl7).trans (ak hg ht _).symm]
       all_goals exact⟨⟨_,rfl,rfl⟩,⟨_,rfl,rfl⟩,⟨_,rfl,rfl⟩,⟨_,rfl,rfl⟩,⟨_,rfl,rfl⟩,⟨_,rfl,rfl⟩,⟨_,rfl,rfl⟩,⟨_,rfl,rfl⟩,⟨_,rfl,rfl⟩,⟨_,rfl,rfl⟩,⟨_,rfl,rfl⟩,⟨_,rfl,rfl⟩,trivial⟩
      cbv;all_goals try rw[show(dlen (d_I64 w3))=(dlen (d_I64 l7)) from(hnl7).trans (ak hg ht _).symm]
      all_goals exact⟨⟨_,rfl,_,rfl,rfl,rfl,rfl,trivial⟩,⟨_,rfl,rfl⟩,⟨_,rfl,rfl⟩,⟨_,rfl,rfl⟩,trivial⟩
     rw[aa hb9] at h_3;cbv;iterate 2 try(rw[hb9];cbv)
     obtain⟨x11,hx11,h_3⟩:=ae h_3;try dsimp only at h_3
     refine ACall.mk _ _ rfl (hF _ _ _ (d9 hg ht hx11)) (.inl rfl) (nb rfl) ?_;cbv;iterate 3 try(rw[hb9];cbv)
     obtain⟨hc7,h_3⟩:=aj h_3;refine AStep.mk hc7 ?_;cbv;try(rw[hb9];cbv)
     refine AGet.mk _ (bp hg ht hx9) ?_;cbv;try(rw[hb9];cbv)
     try(rw[hb8];cbv)
     try(rw[hb9];cbv)
     try(rw[hb8];cbv)
     cases hb10:(lt x11 x9)
     ·rw[aa hb10] at h_3;cbv;try rw[hg] at h_3
      try rw[ht] at h_3
      refine⟨⟨(k3+1,(wrap .i64 (add v4 1)),w3,v3),hc3_,hs3,h_3⟩,Wk.of [(0,some 0),(1,some 1),(2,some 2),(3,some 3)] rfl rfl ?_ ?_,aJ hc3_⟩
      ·cbv;all_goals exact⟨⟨_,rfl,rfl⟩,⟨_,rfl,rfl⟩,⟨_,rfl,rfl⟩,⟨_,rfl,rfl⟩,⟨_,rfl,rfl⟩,⟨_,rfl,rfl⟩,⟨_,rfl,rfl⟩,⟨_,rfl,rfl⟩,⟨_,rfl,rfl⟩,⟨_,rfl,rfl⟩,⟨_,rfl,rfl⟩,⟨_,rfl,rfl⟩,trivial⟩
      cbv;all_goals exact⟨⟨_,rfl,_,rfl,rfl,rfl,rfl,trivial⟩,⟨_,rfl,rfl⟩,⟨_,rfl,rfl⟩,⟨_,rfl,rfl⟩,trivial⟩
     rw[ab hb10] at h_3;cbv;obtain⟨x12,hx12,h_3⟩:=ae h_3;try dsimp only at h_3
     refine ACall.mk _ _ rfl (hF _ _ _ (d9 hg ht hx12)) (.inl rfl) (nb rfl) ?_;cbv;obtain⟨hc8,h_3⟩:=aj h_3;refine AStep.mk hc8 ?_;cbv;refine AGet.mk _ (bp hg ht hx9) ?_;cbv;obtain⟨l8,hl8,h_3⟩:=ag h_3;try dsimp only at h_3
     refine ANew.mk (d_I64 l8) _ (by rw[←hl8];exact kJ hg ht _ _ x12) rfl ?_;have hnl8:(dlen (d_I64 w3))=(d_I64 l8).length:=(by rw[←hl8,jz ht];exact(ak hg ht _));cbv;try rw[hg] at h_3
     try rw[ht] at h_3
     refine⟨⟨(k3+1,(wrap .i64 (add v4 1)),l8,true),hc3_,hs3,h_3⟩,Wk.of [(0,some 0),(1,some 1),(2,some 2),(3,some 3)] rfl rfl ?_ ?_,aJ hc3_⟩
     ·cbv;all_goals try rw[show(dlen (d_I64 w3))=(dlen (d_I64 l8)) from(hnl8).trans (ak hg ht _).symm]
      all_goals exact⟨⟨_,rfl,rfl⟩,⟨_,rfl,rfl⟩,⟨_,rfl,rfl⟩,⟨_,rfl,rfl⟩,⟨_,rfl,rfl⟩,⟨_,rfl,rfl⟩,⟨_,rfl,rfl⟩,⟨_,rfl,rfl⟩,⟨_,rfl,rfl⟩,⟨_,rfl,rfl⟩,⟨_,rfl,rfl⟩,⟨_,rfl,rfl⟩,trivial⟩
     cbv;all_goals try rw[show(dlen (d_I64 w3))=(dlen (d_I64 l8)) from(hnl8).trans (ak hg ht _).symm]
     all_goals exact⟨⟨_,rfl,_,rfl,rfl,rfl,rfl,trivial⟩,⟨_,rfl,rfl⟩,⟨_,rfl,rfl⟩,⟨_,rfl,rfl⟩,trivial⟩
    rw[aa hb8] at h_3;have hK_:=h_3;subst hb8;have h_3:=hK_;clear hK_;cbv;iterate 7 try(rw[hb8];cbv)
    try rw[hg] at h_3
    try rw[ht] at h_3
    refine⟨⟨(k3+1,(wrap .i64 (add v4 1)),w3,v3),hc3_,hs3,h_3⟩,Wk.of [(0,some 0),(1,some 1),(2,some 2),(3,some 3)] rfl rfl ?_ ?_,aJ hc3_⟩
    ·cbv;all_goals exact⟨⟨_,rfl,rfl⟩,⟨_,rfl,rfl⟩,⟨_,rfl,rfl⟩,⟨_,rfl,rfl⟩,⟨_,rfl,rfl⟩,⟨_,rfl,rfl⟩,⟨_,rfl,rfl⟩,⟨_,rfl,rfl⟩,⟨_,rfl,rfl⟩,⟨_,rfl,rfl⟩,⟨_,rfl,rfl⟩,⟨_,rfl,rfl⟩,trivial⟩
    cbv;all_goals exact⟨⟨_,rfl,_,rfl,rfl,rfl,rfl,trivial⟩,⟨_,rfl,rfl⟩,⟨_,rfl,rfl⟩,⟨_,rfl,rfl⟩,trivial⟩
   have hb6:lt v4 (llen (r_Leg a0_Legs))=false:=cH hg ht hi3 hc3_;rw[List.drop_of_length_le (Nat.le_of_not_lt hc3_)] at h_3;rw[bf] at h_3;try rw[←hg] at h_3
   try rw[←ht] at h_3
   try dsimp only at h_3
   rw[hb6];cbv;refine⟨(w3,v3),Wk.of [(0,some 0),(1,some 1),(2,some 3)] rfl rfl ?_ ?_,(Option.some.inj h_3).symm⟩
   ·cbv;all_goals exact⟨⟨_,rfl,rfl⟩,⟨_,rfl,rfl⟩,⟨_,rfl,rfl⟩,⟨_,rfl,rfl⟩,⟨_,rfl,rfl⟩,⟨_,rfl,rfl⟩,⟨_,rfl,rfl⟩,⟨_,rfl,rfl⟩,trivial⟩
   cbv;all_goals exact⟨⟨_,rfl,_,rfl,rfl,rfl,rfl,trivial⟩,⟨_,rfl,rfl⟩,⟨_,rfl,rfl⟩,trivial⟩
  rintro⟨y2_1,y2_2⟩ hy3;replace hy3:=hy3.symm;subst hy3;try dsimp only[lr,lrL,lrp,aW] at h_2
  cbv
  cases hb11:y2_2
  ·rw[aa hb11] at h_2;cbv;refine⟨y2_1,Wk.of [(0,some 2)] rfl rfl ?_ ?_,(Option.some.inj h_2).symm⟩
   ·cbv;all_goals exact⟨⟨_,rfl,rfl⟩,trivial⟩
   cbv;all_goals exact⟨⟨_,rfl,rfl⟩,trivial⟩
  rw[ab hb11] at h_2;cbv;try rw[hg] at h_2
  try rw[ht] at h_2
  refine⟨⟨(n2,(wrap .i64 (add v2 1)),y2_1),hs2.1,hs2.2,h_2⟩,Wk.of [(0,some 0),(1,some 1),(2,some 2)] rfl rfl ?_ ?_,Nat.lt_succ_self _⟩
  ·cbv;all_goals exact⟨⟨_,rfl,rfl⟩,⟨_,rfl,rfl⟩,⟨_,rfl,rfl⟩,⟨_,rfl,rfl⟩,⟨_,rfl,rfl⟩,⟨_,rfl,rfl⟩,⟨_,rfl,rfl⟩,trivial⟩
  cbv;all_goals exact⟨⟨_,rfl,_,rfl,rfl,rfl,rfl,trivial⟩,⟨_,rfl,rfl⟩,⟨_,rfl,rfl⟩,trivial⟩
 rintro y3 hy2;replace hy2:=hy2.symm;subst hy2;try dsimp only[lr,lrL,lrp,aW] at h
 cbv;obtain rfl:=Option.some.inj h;exact ARet.mk ⟨rfl,(ak hg ht _)⟩ hX.symm
def Gp:J:=js [jq 7 (.box 0),jq 14 (.alloc [.r (.v (.int .i64 0)),.r (.v (.int .i64 0))]),jm 15 kf] [1,2,3,4,5,6,7,14] (.seq (js [jf 21 0 7,jk 22 21,jq 23 (.len false 22),jm 24 (ki 0)] [1,2,3,4,5,6,7,14,22,23,24] (.bl 0 (js [jb 25 .lss .i 24 23] [1,2,3,4,5,6,7,14,22,23,24,25] (.seq (.cond 25 .skip (.exit 0)) (.seq (.block 1 (js [jm 26 24,ja 27 6 22 24,jl 28 6 27,jq 17 (.alloc [.r (.v (.string .empty)),.r (.v (.string .empty)),.r (.v (.int .i64 0)),.r (.v (.int .i64 0)),.r (.v (.int .i64 0)),.r (.v (.int .i64 0))]),jm 16 26,jp (.st 6 17 28)] [1,2,3,4,5,6,7,14,16,17,22,23,24] (js [jm 29 2,jf 30 0 17,jk 31 30,jc 32 84 [29,31],jm 18 32] [1,2,3,4,5,6,7,14,16,17,18,22,23,24] (.seq (.seq (.reg (some [[],[0],[],[],[2,3],[2,3,4],[0,1,2,3,4,5],[0,1,2,3,4,5,6],[0,1,2,3,4,5,6,7],[0,1,2,3,4,5,6,7],[0,1,2,3,4,5,6,7,8,9],[0,1,2,3,4,5,6,7,8,9,10],[0,1,2,3,4,5,6,7,8,9,10,11],[0,1,2,3,4,5,6,7,8,9,10,11,12]]) [jf 33 1 17,jk 34 33,jm 35 2,jm 36 5,ja 37 1 35 36,jk 38 37,jb 39 .neq .s 34 38,jm 40 39,jv 41 40 (.mv 3),jv 42 40 (.mv 18),jv 43 40 (.ia 1 41 42),jv 44 40 (.ld false 1 43),jv 45 40 (.bin .lss .i 44 (ki 0)),jq 46 (.pick 40 kt 45)] [1,2,3,4,5,6,7,14,16,17,18,22,23,24,46]) (.cond 46 (.exit 1) .skip)) (.seq (.reg (some [[],[],[],[],[],[3,4],[3,4,5],[],[7],[],[7,8,9],[2,3,4,5,6,7,8,9,10],[0,1,2,3,4,5,6,7,8,9,10,11],[0,1,2,3,4,5,6,7,8,9,10,11,12],[0,1,2,3,4,5,6,7,8,9,10,11,12,13],[0,1,2,3,4,5,6,7,8,9,10,11,12,13],[],[0,1,2,3,4,5,6,7,8,9,10,11,12,13,14,16],[0,1,2,3,4,5,6,7,8,9,10,11,12,13,14,15,16,17]]) [jm 48 1,jm 49 16,jl 50 3 7,jm 51 3,jm 52 18,ja 53 1 51 52,jk 54 53,jf 55 0 17,jk 56 55,jm 57 4,jb 58 .eql .s 56 57,jc 59 149 [50,54,58],jq 60 (.callv true 48 [49,59]),jm 47 60,jq 61 (.ext 0 47),jq 62 (.ext 1 47),jq 19 (.alloc [.r (.v (.int .i64 0)),.r (.v (.int .i64 0))]),jp (.st 2 19 61),jm 20 62] [1,2,3,4,5,6,7,14,19,20,22,23,24]) (js [jm 63 20,jm 64 63,ju 65 64 (.ld true 3 7),ju 66 64 (.ld true 2 19),ju 67 64 (.call 86 true [65,66]),ju 68 64 (.mv 6),ju 69 64 (.bin .eql .i 67 68),jq 70 (.pick 64 69 kf)] [1,2,3,4,5,6,7,14,19,22,23,24,70] (.cond 70 (js [jl 71 2 19,jp (.st 2 14 71),jm 15 kt] [14,15] .ret) .skip))))))) (.reg none [jb 72 .add .i 24 (ki 1),jm 24 72] [1,2,3,4,5,6,7,14,22,23,24])))))) (js [jq 73 (.bld [.r (.v (.int .i64 0)),.r (.v (.int .i64 0))] []),jp (.st 2 14 73),jm 15 kf] [14,15] .ret))
def GT:List RV:=[.c 14 true 2,.t 15]
def bH (g:G) (t:TE) (a0:Network) (a1:Fd) (a2:List ByteArray) (a3:List Int) (a4:ByteArray) (a5:Int) (a6:Int):List Leg→Int→Option (LR (Trip×Bool) Unit)
 |[],v1=>
  some (LR.out ())
 |z1::ls1,v1=>
  lP (cv g t a2 z1.From) fun x1=>
  gd (((0:Int)≤a5))<|
  gt a2 (g.nat a5) fun x2=>
  br (g.seq z1.To x2)
  (
   gd (((0:Int)≤x1))<|
   gt a3 (g.nat x1) fun x3=>
   br (g.lt x3 0)
   (
    bH g t a0 a1 a2 a3 a4 a5 a6 ls1 (g.wrap .i64 (g.add v1 1)))
   (
    gd (((0:Int)≤x1))<|
    lP (fM g t a0 x3 (g.seq z1.From a4)) fun x4=>
    cl (callFd g t a1 v1 x4) fun x5=>
    br x5.2
    (
     cl (eu g t a0 (Trip.mk x5.1.Leg x5.1.Day)) fun x6=>
     br (g.eq x6 a6)
     (
      some (LR.ret (((Trip.mk x5.1.Leg x5.1.Day),true))))
     (
      bH g t a0 a1 a2 a3 a4 a5 a6 ls1 (g.wrap .i64 (g.add v1 1))))
    (
     bH g t a0 a1 a2 a3 a4 a5 a6 ls1 (g.wrap .i64 (g.add v1 1)))))
  (
   bH g t a0 a1 a2 a3 a4 a5 a6 ls1 (g.wrap .i64 (g.add v1 1)))
def lC (g:G) (t:TE) (a0:Network) (a1:Fd) (a2:List ByteArray) (a3:List Int) (a4:ByteArray) (a5:Int) (a6:Int):Option (Trip×Bool):=
 cl (bH g t a0 a1 a2 a3 a4 a5 a6 a0.Legs 0) fun o1=>lr o1 fun y1=>
 some (((Trip.mk 0 0),false))
theorem uN {g:G} {t:TE} {a0:Network} {a1:Fd} {a2:List ByteArray} {a3:List Int} {a4:ByteArray} {a5:Int} {a6:Int} {r:Trip×Bool} (hg:g=G.real) (ht:t=TE.real) (h:lC g t a0 a1 a2 a3 a4 a5 a6=some r):Fn Tryz.prog 110 [.g (Network.rs t a0),.c (t.r_Fd a1),.c (.s 1 (t.r_S a2)),.c (.s 1 (t.r_I64 a3)),.c (.v (.string a4)),.c (.v (.int .i64 a5)),.c (.v (.int .i64 a6))] (.u [.g (Trip.ds t r.1),.c (.r (.v (.bool r.2)))]):=by
 obtain⟨X,hX⟩:=aE (.u [.g (Trip.ds t r.1),.c (.r (.v (.bool r.2)))]:X);rw[←hX];refine az (rvs:=GT) (j:=Gp) Tryz.func110 rfl (by kernel_rfl) (nb rfl) (by kernel_rfl) ac ?_;intro g2 F hg2 hF;obtain rfl:g2=g:=hg2.unique.trans hg.symm;clear hg2;obtain⟨wrap,lt,_,eq,_,_,_,_,_,_,_,_,_,add,_,_,_,seq,_,_,_,llen⟩:=g2;obtain⟨_,_,_,_,r_Leg,_,r_I64,_,_,_,_,_,r_S,_,_,_,r_Fd⟩:=t
 obtain⟨a0_Legs,a0_Off,a0_Change⟩:=a0;unfold lC at h;try dsimp only at h
 cbv;obtain⟨o1,ho1,h⟩:=ae h;try dsimp only at h
 try rw[hg] at ho1
 try rw[ht] at ho1
 refine ABL.mk {p:Nat×Int//p.1≤a0_Legs.length∧p.2=((p.1:Nat):Int)∧bH G.real TE.real (Network.mk a0_Legs a0_Off a0_Change) a1 a2 a3 a4 a5 a6 (List.drop p.1 a0_Legs) p.2=some o1} (fun⟨⟨k1,v1⟩,_⟩=>({sl:=[(1,.c (.r (r_Fd a1))),(2,.c (.r (.s 1 (r_S a2)))),(3,.c (.r (.s 1 (r_I64 a3)))),(4,.c (.r (.v (.string a4)))),(5,.c (.r (.v (.int .i64 a5)))),(6,.c (.r (.v (.int .i64 a6)))),(7,.c (.p 0 3 0 0)),(14,.c (.p 1 2 0 0)),(22,.c (.r (.s 6 (r_Leg a0_Legs)))),(23,.c (.r (.v (.int .i64 (llen (r_Leg a0_Legs)))))),(24,.c (.r (.v (.int .i64 v1))))],tab:=[(0,some (.foc 3 [] [.r (.s 6 (r_Leg a0_Legs)),.r (.s 1 (r_I64 a0_Off)),.r (.v (.int .i64 a0_Change))] [])),(1,some (.foc 2 [] [.r (.v (.int .i64 0)),.r (.v (.int .i64 0))] []))]}:St)) 2 (fun p=>a0_Legs.length-p.1.1) ⟨(0,0),Nat.zero_le _,rfl,ho1⟩ (Unit) (fun _=>({sl:=[(14,.c (.p 0 2 0 0))],tab:=[(0,some (.foc 2 [] [.r (.v (.int .i64 0)),.r (.v (.int .i64 0))] []))]}:St)) 1 (fun y=>o1=LR.out y) ?_ ?_ ?_
 ·refine Wk.of [(0,some 0),(1,some 16)] rfl rfl ?_ ?_
  ·cbv;all_goals exact⟨⟨_,rfl,rfl⟩,⟨_,rfl,rfl⟩,⟨_,rfl,rfl⟩,⟨_,rfl,rfl⟩,⟨_,rfl,rfl⟩,⟨_,rfl,rfl⟩,⟨_,rfl,rfl⟩,⟨_,rfl,rfl⟩,⟨_,rfl,rfl⟩,⟨_,rfl,rfl⟩,⟨_,rfl,rfl⟩,trivial⟩
  cbv;all_goals exact⟨⟨_,rfl,_,rfl,rfl,rfl,rfl,trivial⟩,⟨_,rfl,_,rfl,rfl,rfl,trivial⟩,trivial⟩
 ·rintro⟨⟨k1,v1⟩,hk1,hi1,h_1⟩ hq1;have hm1:=(hq1.1 22 _ _ rfl);try dsimp only at hk1 hi1 h_1
  clear hq1;cbv
  by_cases hc1_:k1<a0_Legs.length
  ·have hb1:lt v1 (llen (r_Leg a0_Legs))=true:=dg hg ht hi1 hc1_;have hs1:=fG hg ht hi1 hc1_ hm1;obtain⟨z1,hz1⟩:=aD hc1_;rw[aw hz1] at h_1;rw[bH] at h_1;obtain⟨z1_From,z1_To,z1_Start,z1_Takes,z1_Days,z1_Room⟩:=z1;try rw[←hg] at h_1
   try rw[←ht] at h_1
   try dsimp only at h_1
   rw[hb1];cbv;refine AStep.mk (fB hi1) ?_;cbv;refine AGet.mk _ (dV hg ht hi1 hz1) ?_;cbv;obtain⟨x1,hx1,h_1⟩:=ag h_1;try dsimp only at h_1
   refine ACall.mk _ _ rfl (hF _ _ _ (dk hg ht hx1)) (.inl rfl) (nb rfl) ?_;cbv;obtain⟨hc1,h_1⟩:=aj h_1;refine AStep.mk hc1 ?_;cbv;obtain⟨x2,hx2,h_1⟩:=aH h_1;try dsimp only at h_1
   refine AGet.mk _ (pG hg ht hx2) ?_;cbv
   cases hb2:(seq z1_To x2)
   ·rw[aa hb2] at h_1;cbv;iterate 5 try(rw[hb2];cbv)
    try rw[hg] at h_1
    try rw[ht] at h_1
    refine⟨⟨(k1+1,(wrap .i64 (add v1 1))),hc1_,hs1,h_1⟩,Wk.of [(0,some 0),(1,some 1)] rfl rfl ?_ ?_,aJ hc1_⟩
    ·cbv;all_goals exact⟨⟨_,rfl,rfl⟩,⟨_,rfl,rfl⟩,⟨_,rfl,rfl⟩,⟨_,rfl,rfl⟩,⟨_,rfl,rfl⟩,⟨_,rfl,rfl⟩,⟨_,rfl,rfl⟩,⟨_,rfl,rfl⟩,⟨_,rfl,rfl⟩,⟨_,rfl,rfl⟩,⟨_,rfl,rfl⟩,trivial⟩
    cbv;all_goals exact⟨⟨_,rfl,_,rfl,rfl,rfl,rfl,trivial⟩,⟨_,rfl,_,rfl,rfl,rfl,trivial⟩,trivial⟩
   rw[ab hb2] at h_1;cbv;iterate 2 try(rw[hb2];cbv)
   obtain⟨hc2,h_1⟩:=aj h_1;refine AStep.mk hc2 ?_;cbv;obtain⟨x3,hx3,h_1⟩:=aH h_1;try dsimp only at h_1
   refine AGet.mk _ (ec hg ht hx3) ?_;cbv;iterate 3 try(rw[hb2];cbv)
   cases hb3:(lt x3 0)
   rotate_left
   ·rw[ab hb3] at h_1;cbv;try rw[hg] at h_1
    try rw[ht] at h_1
    refine⟨⟨(k1+1,(wrap .i64 (add v1 1))),hc1_,hs1,h_1⟩,Wk.of [(0,some 0),(1,some 1)] rfl rfl ?_ ?_,aJ hc1_⟩
    ·cbv;all_goals exact⟨⟨_,rfl,rfl⟩,⟨_,rfl,rfl⟩,⟨_,rfl,rfl⟩,⟨_,rfl,rfl⟩,⟨_,rfl,rfl⟩,⟨_,rfl,rfl⟩,⟨_,rfl,rfl⟩,⟨_,rfl,rfl⟩,⟨_,rfl,rfl⟩,⟨_,rfl,rfl⟩,⟨_,rfl,rfl⟩,trivial⟩
    cbv;all_goals exact⟨⟨_,rfl,_,rfl,rfl,rfl,rfl,trivial⟩,⟨_,rfl,_,rfl,rfl,rfl,trivial⟩,trivial⟩
   rw[aa hb3] at h_1;cbv;obtain⟨hc3,h_1⟩:=aj h_1;refine AStep.mk hc3 ?_;cbv;refine AGet.mk _ (ec hg ht hx3) ?_;cbv;obtain⟨x4,hx4,h_1⟩:=ag h_1;try dsimp only at h_1
   refine ACall.mk _ _ rfl (hF _ _ _ (o8 hg ht hx4)) (.inl rfl) (nb rfl) ?_;cbv;obtain⟨x5,hx5,h_1⟩:=ae h_1;obtain⟨⟨x5_1_Leg,x5_1_Day⟩,x5_2⟩:=x5;try dsimp only at h_1
   obtain⟨f_,bs_,hr_,hc_⟩:=uP hg ht hx5;refine ACallV.mk f_ bs_ _ _ hr_ rfl (hF _ _ _ hc_) (.inl rfl) (nb rfl) ?_;clear hr_ hc_;cbv;have hb4:x5_2=true∨x5_2=false:=by cases x5_2<;>simp
   rcases hb4 with hb4|hb4
   ·rw[ab hb4] at h_1;have hK_:=h_1;subst hb4;have h_1:=hK_;clear hK_;cbv;iterate 2 try(rw[hb4];cbv)
    obtain⟨x6,hx6,h_1⟩:=ae h_1;try dsimp only at h_1
    refine ACall.mk _ _ rfl (hF _ _ _ (d9 hg ht hx6)) (.inl rfl) (nb rfl) ?_;cbv;iterate 3 try(rw[hb4];cbv)
    cases hb5:(eq x6 a6)
    rotate_left
    ·rw[ab hb5] at h_1;cbv;obtain rfl:=Option.some.inj h_1;try dsimp only[lr,lrL,lrp,aW] at h
     obtain rfl:=Option.some.inj h;exact ARet.mk trivial hX.symm
    rw[aa hb5] at h_1;cbv;try rw[hg] at h_1
    try rw[ht] at h_1
    refine⟨⟨(k1+1,(wrap .i64 (add v1 1))),hc1_,hs1,h_1⟩,Wk.of [(0,some 0),(1,some 1)] rfl rfl ?_ ?_,aJ hc1_⟩
    ·cbv;all_goals exact⟨⟨_,rfl,rfl⟩,⟨_,rfl,rfl⟩,⟨_,rfl,rfl⟩,⟨_,rfl,rfl⟩,⟨_,rfl,rfl⟩,⟨_,rfl,rfl⟩,⟨_,rfl,rfl⟩,⟨_,rfl,rfl⟩,⟨_,rfl,rfl⟩,⟨_,rfl,rfl⟩,⟨_,rfl,rfl⟩,trivial⟩
    cbv;all_goals exact⟨⟨_,rfl,_,rfl,rfl,rfl,rfl,trivial⟩,⟨_,rfl,_,rfl,rfl,rfl,trivial⟩,trivial⟩
   rw[aa hb4] at h_1;have hK_:=h_1;subst hb4;have h_1:=hK_;clear hK_;cbv;iterate 5 try(rw[hb4];cbv)
   try rw[hg] at h_1
   try rw[ht] at h_1
   refine⟨⟨(k1+1,(wrap .i64 (add v1 1))),hc1_,hs1,h_1⟩,Wk.of [(0,some 0),(1,some 1)] rfl rfl ?_ ?_,aJ hc1_⟩
   ·cbv;all_goals exact⟨⟨_,rfl,rfl⟩,⟨_,rfl,rfl⟩,⟨_,rfl,rfl⟩,⟨_,rfl,rfl⟩,⟨_,rfl,rfl⟩,⟨_,rfl,rfl⟩,⟨_,rfl,rfl⟩,⟨_,rfl,rfl⟩,⟨_,rfl,rfl⟩,⟨_,rfl,rfl⟩,⟨_,rfl,rfl⟩,trivial⟩
   cbv;all_goals exact⟨⟨_,rfl,_,rfl,rfl,rfl,rfl,trivial⟩,⟨_,rfl,_,rfl,rfl,rfl,trivial⟩,trivial⟩
  have hb1:lt v1 (llen (r_Leg a0_Legs))=false:=cH hg ht hi1 hc1_;rw[List.drop_of_length_le (Nat.le_of_not_lt hc1_)] at h_1;rw[bH] at h_1;try rw[←hg] at h_1
  try rw[←ht] at h_1
  try dsimp only at h_1
  rw[hb1];cbv;refine⟨(),Wk.of [(0,some 1)] rfl rfl ?_ ?_,(Option.some.inj h_1).symm⟩
  ·cbv;all_goals exact⟨⟨_,rfl,rfl⟩,trivial⟩
  cbv;all_goals exact⟨⟨_,rfl,_,rfl,rfl,rfl,trivial⟩,trivial⟩
 rintro _ hy1;replace hy1:=hy1.symm;subst hy1;try dsimp only[lr,lrL,lrp,aW] at h
 cbv;obtain rfl:=Option.some.inj h;exact ARet.mk trivial hX.symm
def ir55:J:=js [jq 5 (.box 0),jq 10 (.mv (.k (.c (.n 2)))),jm 11 kf] [1,2,3,4,5] (js [jl 24 3 5,jc 25 82 [24],jm 12 25] [1,2,3,4,5,12] (js [jm 26 12,jm 27 3,jc 28 84 [26,27],jm 13 28] [1,2,4,5,12,13] (js [jq 29 (.bsl 1 []),jm 14 29] [1,2,4,5,12,13,14] (.seq (js [jm 15 (ki 0)] [1,2,4,5,12,13,14,15] (.bl 0 (.seq (js [jm 30 15,jm 31 12,jq 32 (.len false 31),jb 33 .leq .i 30 32] [1,2,4,5,12,13,14,15,33] (.cond 33 .skip (.exit 0))) (.seq (.block 1 (js [jl 36 3 5,jm 37 1,jm 38 2,jm 39 4,jm 40 15,jc 41 109 [36,37,38,39,40],jm 16 41] [1,2,4,5,12,13,14,15,16] (.seq (js [jm 42 16,jq 43 (.len false 42),jb 44 .eql .i 43 (ki 0),jm 45 44,jv 46 45 (.mv 13),jv 47 45 (.bin .lss .i 46 (ki 0)),jq 48 (.pick 45 kt 47)] [1,2,4,5,12,13,14,15,16,48] (.cond 48 (js [jq 10 (.mv (.k (.c (.n 2)))),jm 11 kf] [10,11] .ret) .skip)) (.reg none [jm 49 14,jm 50 16,jq 51 (.bsl 1 [50]),jq 52 (.app 1 24 true 49 51),jm 14 52] [1,2,4,5,12,13,14,15])))) (.reg none [jm 34 15,jb 35 .add .i 34 (ki 1),jm 15 35] [1,2,4,5,12,13,14,15]))))) (.seq (.gh (.ga (.reg none [jm 53 14,jm 54 12,jq 55 (.len false 54),ja 56 1 53 55,jk 57 56,jm 58 13,ja 59 1 57 58,jk 60 59,jm 17 60] [1,2,5,12,13,14,17]))) (.seq (js [jm 61 17,jb 62 .lss .i 61 (ki 0)] [1,2,5,12,13,14,17,62] (.cond 62 (js [jq 10 (.mv (.k (.c (.n 2)))),jm 11 kf] [10,11] .ret) .skip)) (js [jm 18 (ki 0)] [1,2,5,12,13,14,17,18] (.seq (.bl 2 (.seq (.seq (.gh (.ga (.reg none [jm 63 14,jm 64 18,ja 65 1 63 64,jk 66 65,jm 67 13,ja 68 1 66 67,jk 69 68,jm 70 17,jb 71 .neq .i 69 70] [1,2,5,12,13,14,17,18,71]))) (.cond 71 .skip (.exit 2))) (.block 3 (.reg none [jm 72 18,jb 73 .add .i 72 (ki 1),jm 18 73] [1,2,5,12,13,14,17,18])))) (js [jq 74 (.bsl 2 []),jm 19 74] [1,2,5,12,13,14,17,18,19] (.seq (.bl 4 (.seq (js [jm 75 18,jb 76 .gtr .i 75 (ki 0)] [1,2,5,12,13,14,17,18,19,76] (.cond 76 .skip (.exit 4))) (.seq (.block 5 (.seq (.gh (.ga (.reg (some [[],[],[],[],[],[4],[3,4,5],[3,4,5,6],[],[],[],[0,1,2,3,4,5,6,7,8,9,10],[0,1,2,3,4,5,6,7,8,9,10,11],[0,1,2,3,4,5,6,7,8,9,10,11,12],[0,1,2,3,4,5,6,7,8,9,10,11,12],[],[0,1,2,3,4,5,6,7,8,9,10,11,12,13,15],[0,1,2,3,4,5,6,7,8,9,10,11,12,13,14,15,16]]) [jl 80 3 5,jm 81 1,jm 82 12,jm 83 14,jm 84 18,jb 85 .sub .i 84 (ki 1),ja 86 1 83 85,jk 87 86,jm 88 2,jm 89 13,jm 90 17,jc 91 110 [80,81,82,87,88,89,90],jm 79 91,jq 92 (.ext 0 79),jq 93 (.ext 1 79),jq 20 (.alloc [.r (.v (.int .i64 0)),.r (.v (.int .i64 0))]),jp (.st 2 20 92),jm 21 93] [1,2,5,12,14,18,19,20,21]))) (.seq (js [jm 94 21,jq 95 (.not 94)] [1,2,5,12,14,18,19,20,95] (.cond 95 (js [jq 10 (.mv (.k (.c (.n 2)))),jm 11 kf] [10,11] .ret) .skip)) (js [jm 96 19,jl 97 2 20,jq 98 (.bsl 2 [97]),jq 99 (.app 2 16 true 96 98),jm 19 99] [1,2,5,12,14,18,19,
 20] (js [jm 100 12,jf 101 0 5,jk 102 101,jf 103 0 20,jk 104 103,ja 105 6 102 104,jf 106 0 105,jk 107 106,jc 108 84 [100,107],jm 13 108] [1,2,5,12,13,14,18,19] (.gh (.ga (.reg none [jm 109 14,jm 110 18,jb 111 .sub .i 110 (ki 1),ja 112 1 109 111,jk 113 112,jm 114 13,ja 115 1 113 114,jk 116 115,jm 17 116] [1,2,5,12,13,14,17,18,19])))))))) (.reg none [jm 77 18,jb 78 .sub .i 77 (ki 1),jm 18 78] [1,2,5,12,13,14,17,18,19])))) (js [jq 117 (.bsl 2 []),jm 22 117] [19,22] (.seq (js [jm 118 19,jq 119 (.len false 118),jb 120 .sub .i 119 (ki 1),jm 23 120] [19,22,23] (.bl 6 (.seq (js [jm 121 23,jb 122 .geq .i 121 (ki 0)] [19,22,23,122] (.cond 122 .skip (.exit 6))) (.seq (.block 7 (.reg none [jm 125 22,jm 126 19,jm 127 23,ja 128 2 126 127,jl 129 2 128,jq 130 (.bsl 2 [129]),jq 131 (.app 2 16 true 125 130),jm 22 131] [19,22,23])) (.reg none [jm 123 23,jb 124 .sub .i 123 (ki 1),jm 23 124] [19,22,23]))))) (js [jm 132 22,jm 10 132,jm 11 kt] [10,11] .ret)))))))))))))
def rv55:List RV:=[.t 10,.t 11]
def ej (g:G) (t:TE) (y3:List Trip):Nat→List Trip→Int→Option (List Trip)
 |0,_,_=>none
 |n4+1,w3,v6=>
  br (g.le 0 v6)
  (
   gd (((0:Int)≤v6∧v6<(((g.dlen (t.d_Trip y3)):Nat):Int)))<|
   gt y3 (g.nat v6) fun x13=>
   lP ([x13]) fun(l8:List Trip)=>
   gd (((w3.length+l8.length)*16≤70368744177664))<|
   lP (w3++l8) fun(l9:List Trip)=>
   ej g t y3 n4 l9 (g.wrap .i64 (g.sub v6 1)))
  (
   some w3)
def ei (g:G) (t:TE) (a0:Network) (a1:Fd) (a2:ByteArray) (x1:List ByteArray) (y1:List (List Int)):Nat→Int→Int→Int→List Trip→Option (LR ((List Trip)×Bool) (List Trip))
 |0,_,_,_,_=>none
 |n3+1,v3,v4,v5,w2=>
  br (g.lt 0 v5)
  (
   gt y1 (g.nat (g.wrap .i64 (g.sub v5 1))) fun x8=>
   gd (((0:Int)≤(g.wrap .i64 (g.sub v5 1))∧(g.wrap .i64 (g.sub v5 1))<(((g.dlen (t.d_LI64 y1)):Nat):Int)))<|
   cl (lC g t a0 a1 x1 x8 a2 v3 v4) fun x9=>
   br x9.2
   (
    lP ([(Trip.mk x9.1.Leg x9.1.Day)]) fun(l5:List Trip)=>
    gd (((w2.length+l5.length)*16≤70368744177664))<|
    lP (w2++l5) fun(l6:List Trip)=>
    gd (((0:Int)≤x9.1.Leg))<|
    gt a0.Legs (g.nat x9.1.Leg) fun x10=>
    lP (cv g t x1 x10.From) fun x11=>
    gd (((0:Int)≤(g.wrap .i64 (g.sub v5 1))∧(g.wrap .i64 (g.sub v5 1))<(((g.dlen (t.d_LI64 y1)):Nat):Int)))<|
    gd (((0:Int)≤x11∧x11<(((g.dlen (t.d_I64 x8)):Nat):Int)))<|
    gt x8 (g.nat x11) fun x12=>
    ei g t a0 a1 a2 x1 y1 n3 x11 x12 (g.wrap .i64 (g.sub v5 1)) l6)
   (
    some (LR.ret (([],false)))))
  (
   some (LR.out w2))
def fy (g:G) (t:TE) (x2:Int) (x5:Int) (y1:List (List Int)):Nat→Int→Option Int
 |0,_=>none
 |n2+1,v2=>
  gt y1 (g.nat v2) fun x6=>
  gd (((0:Int)≤v2∧v2<(((g.dlen (t.d_LI64 y1)):Nat):Int)))<|
  gd (((0:Int)≤x2∧x2<(((g.dlen (t.d_I64 x6)):Nat):Int)))<|
  gt x6 (g.nat x2) fun x7=>
  br (g.eq x7 x5)
  (
   some v2)
  (
   fy g t x2 x5 y1 n2 (g.wrap .i64 (g.add v2 1)))
def dD (g:G) (t:TE) (a0:Network) (a1:Fd) (a2:ByteArray) (a4:Int) (x2:Int):Nat→Int→List (List Int)→Option (LR ((List Trip)×Bool) (List (List Int)))
 |0,v1,w1=>
  some (LR.out w1)
 |n1+1,v1,w1=>
  cl (gB g t a0 a1 a2 a4 v1) fun x3=>
  br (g.eq (g.int (g.dlen (t.d_I64 x3))) 0)
  (
   some (LR.ret (([],false))))
  (
   br (g.lt x2 0)
   (
    some (LR.ret (([],false))))
   (
    lP ([x3]) fun(l2:List (List Int))=>
    gd (((w1.length+l2.length)*24≤70368744177664))<|
    lP (w1++l2) fun(l3:List (List Int))=>
    dD g t a0 a1 a2 a4 x2 n1 (g.wrap .i64 (g.add v1 1)) l3))
def pD (g:G) (t:TE) (a0:Network) (a1:Fd) (a2:ByteArray) (a3:ByteArray) (a4:Int):Option ((List Trip)×Bool):=
 cl (dA g t a0) fun x1=>
 lP (cv g t x1 a3) fun x2=>
 lP ([]) fun(l1:List (List Int))=>
 gd (((g.int (g.dlen (t.d_S x1)))≤4611686018427387904))<|
 cl (dD g t a0 a1 a2 a4 x2 (df 0 (g.int (g.dlen (t.d_S x1)))) 0 l1) fun o1=>lr o1 fun y1=>
 gt y1 (g.nat (g.int (g.dlen (t.d_S x1)))) fun x4=>
 gd (((0:Int)≤(g.int (g.dlen (t.d_S x1)))∧(g.int (g.dlen (t.d_S x1)))<(((g.dlen (t.d_LI64 y1)):Nat):Int)))<|
 gd (((0:Int)≤x2∧x2<(((g.dlen (t.d_I64 x4)):Nat):Int)))<|
 gt x4 (g.nat x2) fun x5=>
 br (g.lt x5 0)
 (
  some (([],false)))
 (
  cl (fy g t x2 x5 y1 1000000000 0) fun y2=>
  lP ([]) fun(l4:List Trip)=>
  cl (ei g t a0 a1 a2 x1 y1 1000000000 x2 x5 y2 l4) fun o3=>lr o3 fun y3=>
  lP ([]) fun(l7:List Trip)=>
  cl (ej g t y3 1000000000 l7 (g.wrap .i64 (g.sub (g.int (g.dlen (t.d_Trip y3))) 1))) fun y4=>
  some ((y4,true)))
theorem zU {g:G} {t:TE} {a0:Network} {a1:Fd} {a2:ByteArray} {a3:ByteArray} {a4:Int} {r:(List Trip)×Bool} (hg:g=G.real) (ht:t=TE.real) (h:pD g t a0 a1 a2 a3 a4=some r):Fn Tryz.prog 55 [.g (Network.rs t a0),.c (t.r_Fd a1),.c (.v (.string a2)),.c (.v (.string a3)),.c (.v (.int .i64 a4))] (.u [.c (.o 2 (t.d_Trip r.1)),.c (.r (.v (.bool r.2)))]):=by
 obtain⟨X,hX⟩:=aE (.u [.c (.o 2 (t.d_Trip r.1)),.c (.r (.v (.bool r.2)))]:X);rw[←hX];refine az (rvs:=rv55) (j:=ir55) Tryz.func55 rfl (by kernel_rfl) (nb rfl) (by kernel_rfl) ac ?_;intro g2 F hg2 hF;obtain rfl:g2=g:=hg2.unique.trans hg.symm;clear hg2;obtain⟨wrap,lt,le,eq,_,_,_,_,_,_,_,nat,int,add,sub,_,_,_,_,_,_,_,_,_,dlen,_,_,_,rd⟩:=g2;obtain⟨_,d_U8,_,d_Scan,r_Leg,d_Leg,r_I64,d_I64,_,d_Trip,_,d_Booking,r_S,d_S,_,d_LI64,r_Fd⟩:=t
 obtain⟨a0_Legs,a0_Off,a0_Change⟩:=a0;have hnil_U8:d_U8 []=[]:=A4 ht;have hnil_Scan:d_Scan []=[]:=wZ ht;have hnil_Leg:d_Leg []=[]:=sh ht;have hnil_I64:d_I64 []=[]:=ln ht;have hnil_Trip:d_Trip []=[]:=ma ht;have hnil_Booking:d_Booking []=[]:=rY ht;have hnil_S:d_S []=[]:=yK ht;have hnil_LI64:d_LI64 []=[]:=xo ht;unfold pD at h;try dsimp only at h
 cbv;obtain⟨x1,hx1,h⟩:=ae h;try dsimp only at h
 refine ACall.mk _ _ rfl (hF _ _ _ (eT hg ht hx1)) (.inl rfl) (nb rfl) ?_;cbv;refine AStep.mk (ez ht (ap hg ht _)) ?_;cbv;obtain⟨x2,hx2,h⟩:=ag h;try dsimp only at h
 refine ACall.mk _ _ (by rw[show rd (d_S x1) 0 (dlen (d_S x1))=r_S x1 from gV hg ht (ap hg ht _)];try rfl) (hF _ _ _ (dk hg ht hx2)) (.inr rfl) (nb rfl) ?_
 cbv;obtain⟨l1,hl1,h⟩:=ag h;try dsimp only at h
 refine ANew.mk (d_LI64 l1) (dlen (d_LI64 l1)) (by rw[←hl1];exact vr hg ht []) (by rw[←hl1];exact sY hg ht []) ?_;cbv;obtain⟨hB1,h⟩:=aj h;obtain⟨o1,ho1,h⟩:=ae h;try dsimp only at h
 try rw[hg] at ho1
 try rw[ht] at ho1
 refine ABL.mk {p:Nat×Int×List (List Int)//p.1=df p.2.1 (int (dlen (d_S x1)))∧0≤p.2.1∧dD G.real TE.real (Network.mk a0_Legs a0_Off a0_Change) a1 a2 a4 x2 p.1 p.2.1 p.2.2=some o1} (fun⟨⟨n1,v1,w1⟩,_⟩=>({sl:=[(1,.c (.r (r_Fd a1))),(2,.c (.r (.v (.string a2)))),(4,.c (.r (.v (.int .i64 a4)))),(5,.c (.p 0 3 0 0)),(12,.c (.f 1 1 0 (dlen (d_S x1)))),(13,.c (.r (.v (.int .i64 x2)))),(14,.c (.f 2 1 0 (dlen (d_LI64 w1)))),(15,.c (.r (.v (.int .i64 v1))))],tab:=[(0,some (.foc 3 [] [.r (.s 6 (r_Leg a0_Legs)),.r (.s 1 (r_I64 a0_Off)),.r (.v (.int .i64 a0_Change))] [])),(1,some (.arr 1 (d_S x1))),(2,some (.arr 1 (d_LI64 w1)))]}:St)) 3 (fun p=>p.1.1) ⟨(df 0 (int (dlen (d_S x1))),0,l1),rfl,Int.le_refl _,ho1⟩ (List (List Int)) (fun y1=>({sl:=[(1,.c (.r (r_Fd a1))),(2,.c (.r (.v (.string a2)))),(5,.c (.p 0 3 0 0)),(12,.c (.f 1 1 0 (dlen (d_S x1)))),(13,.c (.r (.v (.int .i64 x2)))),(14,.c (.f 2 1 0 (dlen (d_LI64 y1))))],tab:=[(0,some (.foc 3 [] [.r (.s 6 (r_Leg a0_Legs)),.r (.s 1 (r_I64 a0_Off)),.r (.v (.int .i64 a0_Change))] [])),(1,some (.arr 1 (d_S x1))),(2,some (.arr 1 (d_LI64 y1)))]}:St)) 3 (fun y=>o1=LR.out y) ?_ ?_ ?_
 ·refine Wk.of [(0,some 0),(1,some 64),(2,some 160)] rfl rfl ?_ ?_
  ·cbv;all_goals exact⟨⟨_,rfl,rfl⟩,⟨_,rfl,rfl⟩,⟨_,rfl,rfl⟩,⟨_,rfl,rfl⟩,⟨_,rfl,rfl⟩,⟨_,rfl,rfl⟩,⟨_,rfl,rfl⟩,⟨_,rfl,rfl⟩,trivial⟩
  cbv;all_goals exact⟨⟨_,rfl,_,rfl,rfl,rfl,rfl,trivial⟩,⟨_,rfl,rfl⟩,⟨_,rfl,rfl⟩,trivial⟩
 ·rintro⟨⟨n1,v1,w1⟩,hn1,hi1,h_1⟩ hq1;try dsimp only at hn1 hi1 h_1
  clear hq1;cbv;rcases n1 with _|n1
  ·have hb1:le v1 (int (dlen (d_S x1)))=false:=jR hg hn1;rw[dD] at h_1;try rw[←hg] at h_1
   try rw[←ht] at h_1
   try dsimp only at h_1
   rw[hb1];cbv;refine⟨w1,Wk.of [(0,some 0),(1,some 1),(2,some 2)] rfl rfl ?_ ?_,(Option.some.inj h_1).symm⟩
   ·cbv;all_goals exact⟨⟨_,rfl,rfl⟩,⟨_,rfl,rfl⟩,⟨_,rfl,rfl⟩,⟨_,rfl,rfl⟩,⟨_,rfl,rfl⟩,⟨_,rfl,rfl⟩,trivial⟩
   cbv;all_goals exact⟨⟨_,rfl,_,rfl,rfl,rfl,rfl,trivial⟩,⟨_,rfl,rfl⟩,⟨_,rfl,rfl⟩,trivial⟩
  have hb1:le v1 (int (dlen (d_S x1)))=true:=kL hg hn1;have hl1:=pZ hn1;have hs1:=mW hg hn1 hi1 hB1 (by decide);rw[dD] at h_1;try rw[←hg] at h_1
  try rw[←ht] at h_1
  try dsimp only at h_1
  rw[hb1];cbv;obtain⟨x3,hx3,h_1⟩:=ae h_1;try dsimp only at h_1
  refine ACall.mk _ _ rfl (hF _ _ _ (nF hg ht hx3)) (.inl rfl) (nb rfl) ?_;cbv
  cases hb2:(eq (int (dlen (d_I64 x3))) 0)
  rotate_left
  ·rw[ab hb2] at h_1;cbv;iterate 2 try(rw[hb2];cbv)
   obtain rfl:=Option.some.inj h_1;try dsimp only[lr,lrL,lrp,aW] at h
   obtain rfl:=Option.some.inj h;exact ARet.mk trivial (by rw[hX];first|rfl|(simp only[Trip.ds,Scan.ds,Leg.ds,Network.ds,Booking.ds,Belief.ds,Cur.ds,Spot.ds,Know.ds,hnil_Trip];try rfl))
  rw[aa hb2] at h_1;cbv;iterate 2 try(rw[hb2];cbv)
  cases hb3:(lt x2 0)
  rotate_left
  ·rw[ab hb3] at h_1;cbv;obtain rfl:=Option.some.inj h_1;try dsimp only[lr,lrL,lrp,aW] at h
   obtain rfl:=Option.some.inj h;exact ARet.mk trivial (by rw[hX];first|rfl|(simp only[Trip.ds,Scan.ds,Leg.ds,Network.ds,Booking.ds,Belief.ds,Cur.ds,Spot.ds,Know.ds,hnil_Trip];try rfl))
  rw[aa hb3] at h_1;cbv;refine AStep.mk ⟨rfl,(ak hg ht _)⟩ ?_;cbv;obtain⟨l2,hl2,h_1⟩:=ag h_1;try dsimp only at h_1
  refine ANew.mk (d_LI64 l2) (dlen (d_LI64 l2)) (by rw[←hl2];have e:=vr hg ht [x3];dsimp only[List.map,LI64.ds] at e;(try simp only[hnil_U8,hnil_Scan,hnil_Leg,hnil_I64,hnil_Trip,hnil_Booking,hnil_S,hnil_LI64] at e);exact e) (by rw[←hl2];exact sY hg ht [x3]) ?_;cbv;obtain⟨hc1,h_1⟩:=aj h_1;refine AStep.mk ⟨⟨rfl,(lq hg ht _)⟩,(uM hg ht (lq hg ht _) rfl hc1)⟩ ?_;cbv;obtain⟨l3,hl3,h_1⟩:=ag h_1;try dsimp only at h_1
  refine ANew.mk (d_LI64 l3) (dlen (d_LI64 l3)) (by rw[←hl3];exact Dd hg ht (lq hg ht _) rfl) (by rw[←hl3];exact zH hg ht (lq hg ht _) rfl) ?_;cbv;try rw[hg] at h_1
  try rw[ht] at h_1
  refine⟨⟨(n1,(wrap .i64 (add v1 1)),l3),hs1.1,hs1.2,h_1⟩,Wk.of [(0,some 0),(1,some 1),(2,some 339)] rfl rfl ?_ ?_,Nat.lt_succ_self _⟩
  ·cbv;all_goals exact⟨⟨_,rfl,rfl⟩,⟨_,rfl,rfl⟩,⟨_,rfl,rfl⟩,⟨_,rfl,rfl⟩,⟨_,rfl,rfl⟩,⟨_,rfl,rfl⟩,⟨_,rfl,rfl⟩,⟨_,rfl,rfl⟩,trivial⟩
  cbv;all_goals exact⟨⟨_,rfl,_,rfl,rfl,rfl,rfl,trivial⟩,⟨_,rfl,rfl⟩,⟨_,rfl,rfl⟩,trivial⟩
 rintro y1 hy1;replace hy1:=hy1.symm;subst hy1;try dsimp only[lr,lrL,lrp,aW] at h
 cbv;obtain⟨x4,hx4,h⟩:=aH h;try dsimp only at h
 refine AGh.opn 2 1 (nat (int (dlen (d_S x1)))) (d_LI64 y1) _ rfl (jY hg ht hx4) rfl ?_;cbv;refine AGh.nil ?_;cbv;obtain⟨hc2,h⟩:=aj h;refine AStep.mk hc2 ?_;cbv;refine AStep.mk rfl ?_;cbv;obtain⟨hc3,h⟩:=aj h;refine AStep.mk hc3 ?_;cbv;obtain⟨x5,hx5,h⟩:=aH h;try dsimp only at h
 refine AGet.mk _ (bp hg ht hx5) ?_;cbv;refine AGh.cls 2 1 (nat (int (dlen (d_S x1)))) (d_LI64 y1) _ _ _ _ (d_LI64 y1) rfl rfl ⟨rfl,(ak hg ht _)⟩ (kg hg ht hx4) ?_;cbv;refine AGh.nil ?_;cbv
 cases hb4:(lt x5 0)
 rotate_left
 ·rw[ab hb4] at h;cbv;obtain rfl:=Option.some.inj h;exact ARet.mk trivial (by rw[hX];first|rfl|(simp only[Trip.ds,Scan.ds,Leg.ds,Network.ds,Booking.ds,Belief.ds,Cur.ds,Spot.ds,Know.ds,hnil_Trip];try rfl))
 rw[aa hb4] at h;cbv;obtain⟨o2,ho2,h⟩:=ae h;try dsimp only at h
 try rw[hg] at ho2
 try rw[ht] at ho2
 refine ABL.mk {p:Nat×Int//fy G.real TE.real x2 x5 y1 p.1 p.2=some o2} (fun⟨⟨n2,v2⟩,_⟩=>({sl:=[(1,.c (.r (r_Fd a1))),(2,.c (.r (.v (.string a2)))),(5,.c (.p 0 3 0 0)),(12,.c (.f 1 1 0 (dlen (d_S x1)))),(13,.c (.r (.v (.int .i64 x2)))),(14,.c (.f 2 1 0 (dlen (d_LI64 y1)))),(17,.c (.r (.v (.int .i64 x5)))),(18,.c (.r (.v (.int .i64 v2))))],tab:=[(0,some (.foc 3 [] [.r (.s 6 (r_Leg a0_Legs)),.r (.s 1 (r_I64 a0_Off)),.r (.v (.int .i64 a0_Change))] [])),(1,some (.arr 1 (d_S x1))),(2,some (.arr 1 (d_LI64 y1)))]}:St)) 3 (fun p=>p.1.1) ⟨(1000000000,0),ho2⟩ (Int) (fun y2=>({sl:=[(1,.c (.r (r_Fd a1))),(2,.c (.r (.v (.string a2)))),(5,.c (.p 0 3 0 0)),(12,.c (.f 1 1 0 (dlen (d_S x1)))),(13,.c (.r (.v (.int .i64 x2)))),(14,.c (.f 2 1 0 (dlen (d_LI64 y1)))),(17,.c (.r (.v (.int .i64 x5)))),(18,.c (.r (.v (.int .i64 y2))))],tab:=[(0,some (.foc 3 [] [.r (.s 6 (r_Leg a0_Legs)),.r (.s 1 (r_I64 a0_Off)),.r (.v (.int .i64 a0_Change))] [])),(1,some (.arr 1 (d_S x1))),(2,some (.arr 1 (d_LI64 y1)))]}:St)) 3 (fun y=>o2=y) ?_ ?_ ?_
 ·refine Wk.of [(0,some 0),(1,some 1),(2,some 2)] rfl rfl ?_ ?_
  ·cbv;all_goals exact⟨⟨_,rfl,rfl⟩,⟨_,rfl,rfl⟩,⟨_,rfl,rfl⟩,⟨_,rfl,rfl⟩,⟨_,rfl,rfl⟩,⟨_,rfl,rfl⟩,⟨_,rfl,rfl⟩,⟨_,rfl,rfl⟩,trivial⟩
  cbv;all_goals exact⟨⟨_,rfl,_,rfl,rfl,rfl,rfl,trivial⟩,⟨_,rfl,rfl⟩,⟨_,rfl,rfl⟩,trivial⟩
 ·rintro⟨⟨n2,v2⟩,h_2⟩ hq2;try dsimp only at h_2
  clear hq2;rcases n2 with _|n2
  ·rw[fy] at h_2;cases h_2
  rw[fy] at h_2;try rw[←hg] at h_2
  try rw[←ht] at h_2
  try dsimp only at h_2
  cbv;obtain⟨x6,hx6,h_2⟩:=aH h_2;try dsimp only at h_2
  refine AGh.opn 2 1 (nat v2) (d_LI64 y1) _ rfl (jY hg ht hx6) rfl ?_;cbv;refine AGh.nil ?_;cbv;obtain⟨hc4,h_2⟩:=aj h_2;refine AStep.mk hc4 ?_;cbv;refine AStep.mk rfl ?_;cbv;obtain⟨hc5,h_2⟩:=aj h_2;refine AStep.mk hc5 ?_;cbv;obtain⟨x7,hx7,h_2⟩:=aH h_2;try dsimp only at h_2
  refine AGet.mk _ (bp hg ht hx7) ?_;cbv;refine AGh.cls 2 1 (nat v2) (d_LI64 y1) _ _ _ _ (d_LI64 y1) rfl rfl ⟨rfl,(ak hg ht _)⟩ (kg hg ht hx6) ?_;cbv;refine AGh.nil ?_;cbv
  cases hb5:(eq x7 x5)
  rotate_left
  ·rw[ab hb5] at h_2;cbv;refine⟨v2,Wk.of [(0,some 0),(1,some 1),(2,some 2)] rfl rfl ?_ ?_,(Option.some.inj h_2).symm⟩
   ·cbv;all_goals exact⟨⟨_,rfl,rfl⟩,⟨_,rfl,rfl⟩,⟨_,rfl,rfl⟩,⟨_,rfl,rfl⟩,⟨_,rfl,rfl⟩,⟨_,rfl,rfl⟩,⟨_,rfl,rfl⟩,⟨_,rfl,rfl⟩,trivial⟩
   cbv;all_goals exact⟨⟨_,rfl,_,rfl,rfl,rfl,rfl,trivial⟩,⟨_,rfl,rfl⟩,⟨_,rfl,rfl⟩,trivial⟩
  rw[aa hb5] at h_2;cbv;try rw[hg] at h_2
  try rw[ht] at h_2
  refine⟨⟨(n2,(wrap .i64 (add v2 1))),h_2⟩,Wk.of [(0,some 0),(1,some 1),(2,some 2)] rfl rfl ?_ ?_,Nat.lt_succ_self _⟩
  ·cbv;all_goals exact⟨⟨_,rfl,rfl⟩,⟨_,rfl,rfl⟩,⟨_,rfl,rfl⟩,⟨_,rfl,rfl⟩,⟨_,rfl,rfl⟩,⟨_,rfl,rfl⟩,⟨_,rfl,rfl⟩,⟨_,rfl,rfl⟩,trivial⟩
  cbv;all_goals exact⟨⟨_,rfl,_,rfl,rfl,rfl,rfl,trivial⟩,⟨_,rfl,rfl⟩,⟨_,rfl,rfl⟩,trivial⟩
 rintro y2 hy2;replace hy2:=hy2.symm;subst hy2;try dsimp only[lr,lrL,lrp,aW] at h
 cbv;obtain⟨l4,hl4,h⟩:=ag h;try dsimp only at h
 refine ANew.mk (d_Trip l4) (dlen (d_Trip l4)) (by rw[←hl4];exact g7 hg ht []) (by rw[←hl4];exact fH hg ht []) ?_;cbv;obtain⟨o3,ho3,h⟩:=ae h;try dsimp only at h
 try rw[hg] at ho3
 try rw[ht] at ho3
 refine ABL.mk {p:Nat×Int×Int×Int×List Trip//ei G.real TE.real (Network.mk a0_Legs a0_Off a0_Change) a1 a2 x1 y1 p.1 p.2.1 p.2.2.1 p.2.2.2.1 p.2.2.2.2=some o3} (fun⟨⟨n3,v3,v4,v5,w2⟩,_⟩=>({sl:=[(1,.c (.r (r_Fd a1))),(2,.c (.r (.v (.string a2)))),(5,.c (.p 0 3 0 0)),(12,.c (.f 1 1 0 (dlen (d_S x1)))),(13,.c (.r (.v (.int .i64 v3)))),(14,.c (.f 2 1 0 (dlen (d_LI64 y1)))),(17,.c (.r (.v (.int .i64 v4)))),(18,.c (.r (.v (.int .i64 v5)))),(19,.c (.f 3 2 0 (dlen (d_Trip w2))))],tab:=[(0,some (.foc 3 [] [.r (.s 6 (r_Leg a0_Legs)),.r (.s 1 (r_I64 a0_Off)),.r (.v (.int .i64 a0_Change))] [])),(1,some (.arr 1 (d_S x1))),(2,some (.arr 1 (d_LI64 y1))),(3,some (.arr 2 (d_Trip w2)))]}:St)) 4 (fun p=>p.1.1) ⟨(1000000000,x2,x5,y2,l4),ho3⟩ (List Trip) (fun y3=>({sl:=[(19,.c (.f 0 2 0 (dlen (d_Trip y3))))],tab:=[(0,some (.arr 2 (d_Trip y3)))]}:St)) 1 (fun y=>o3=LR.out y) ?_ ?_ ?_
 ·refine Wk.of [(0,some 0),(1,some 1),(2,some 2),(3,some 3)] rfl rfl ?_ ?_
  ·cbv;all_goals exact⟨⟨_,rfl,rfl⟩,⟨_,rfl,rfl⟩,⟨_,rfl,rfl⟩,⟨_,rfl,rfl⟩,⟨_,rfl,rfl⟩,⟨_,rfl,rfl⟩,⟨_,rfl,rfl⟩,⟨_,rfl,rfl⟩,⟨_,rfl,rfl⟩,trivial⟩
  cbv;all_goals exact⟨⟨_,rfl,_,rfl,rfl,rfl,rfl,trivial⟩,⟨_,rfl,rfl⟩,⟨_,rfl,rfl⟩,⟨_,rfl,rfl⟩,trivial⟩
 ·rintro⟨⟨n3,v3,v4,v5,w2⟩,h_3⟩ hq3;try dsimp only at h_3
  clear hq3;rcases n3 with _|n3
  ·rw[ei] at h_3;cases h_3
  rw[ei] at h_3;try rw[←hg] at h_3
  try rw[←ht] at h_3
  try dsimp only at h_3
  cbv
  cases hb6:(lt 0 v5)
  ·rw[aa hb6] at h_3;cbv;refine⟨w2,Wk.of [(0,some 3)] rfl rfl ?_ ?_,(Option.some.inj h_3).symm⟩
   ·cbv;all_goals exact⟨⟨_,rfl,rfl⟩,trivial⟩
   cbv;all_goals exact⟨⟨_,rfl,rfl⟩,trivial⟩
  rw[ab hb6] at h_3;cbv;obtain⟨x8,hx8,h_3⟩:=aH h_3;try dsimp only at h_3
  refine AGh.opn 2 1 (nat (wrap .i64 (sub v5 1))) (d_LI64 y1) _ rfl (jY hg ht hx8) rfl ?_;cbv;refine AGh.nil ?_;cbv;obtain⟨hc6,h_3⟩:=aj h_3;refine AStep.mk hc6 ?_;cbv;refine AStep.mk rfl ?_;cbv;refine AStep.mk ⟨(ez ht (ap hg ht _)),(nw ht (ak hg ht _))⟩ ?_;cbv;obtain⟨x9,hx9,h_3⟩:=ae h_3;obtain⟨⟨x9_1_Leg,x9_1_Day⟩,x9_2⟩:=x9;try dsimp only at h_3
  refine ACall.mk _ _ (by rw[show rd (d_S x1) 0 (dlen (d_S x1))=r_S x1 from gV hg ht (ap hg ht _),show rd (d_I64 x8) 0 (dlen (d_I64 x8))=r_I64 x8 from pM hg ht (ak hg ht _)];try rfl) (hF _ _ _ (uN hg ht hx9)) (.inr (by simp only[Go.Vs.X.fresh,Go.Vs.X.freshs,je,eQ,Bool.and_self,Trip.ds])) (nb rfl) ?_
  cbv;refine AGh.cls 2 1 (nat (wrap .i64 (sub v5 1))) (d_LI64 y1) _ _ _ _ (d_LI64 y1) rfl rfl ⟨rfl,(ak hg ht _)⟩ (kg hg ht hx8) ?_;cbv;refine AGh.nil ?_;cbv;have hb7:x9_2=true∨x9_2=false:=by cases x9_2<;>simp
  rcases hb7 with hb7|hb7
  ·rw[ab hb7] at h_3;have hK_:=h_3;subst hb7;have h_3:=hK_;clear hK_;cbv;obtain⟨l5,hl5,h_3⟩:=ag h_3;try dsimp only at h_3
   refine ANew.mk (d_Trip l5) (dlen (d_Trip l5)) (by rw[←hl5];exact g7 hg ht [(Trip.mk x9_1_Leg x9_1_Day)]) (by rw[←hl5];exact fH hg ht [(Trip.mk x9_1_Leg x9_1_Day)]) ?_;cbv;obtain⟨hc10,h_3⟩:=aj h_3;refine AStep.mk ⟨⟨rfl,(aV hg ht _)⟩,(iY hg ht (aV hg ht _) rfl hc10)⟩ ?_;cbv;obtain⟨l6,hl6,h_3⟩:=ag h_3;try dsimp only at h_3
   refine ANew.mk (d_Trip l6) (dlen (d_Trip l6)) (by rw[←hl6];exact mU hg ht (aV hg ht _) rfl) (by rw[←hl6];exact lx hg ht (aV hg ht _) rfl) ?_;cbv;obtain⟨hc7,h_3⟩:=aj h_3;refine AStep.mk hc7 ?_;cbv;obtain⟨x10,hx10,h_3⟩:=aH h_3;obtain⟨x10_From,x10_To,x10_Start,x10_Takes,x10_Days,x10_Room⟩:=x10;try dsimp only at h_3
   refine AGet.mk _ (aX hg ht hx10) ?_;cbv;refine AStep.mk (ez ht (ap hg ht _)) ?_;cbv;obtain⟨x11,hx11,h_3⟩:=ag h_3;try dsimp only at h_3
   refine ACall.mk _ _ (by rw[show rd (d_S x1) 0 (dlen (d_S x1))=r_S x1 from gV hg ht (ap hg ht _)];try rfl) (hF _ _ _ (dk hg ht hx11)) (.inr rfl) (nb rfl) ?_
   cbv;refine AGh.opn 2 1 (nat (wrap .i64 (sub v5 1))) (d_LI64 y1) _ rfl (jY hg ht hx8) rfl ?_;cbv;refine AGh.nil ?_;cbv;obtain⟨hc8,h_3⟩:=aj h_3;refine AStep.mk hc8 ?_;cbv;refine AStep.mk rfl ?_;cbv;obtain⟨hc9,h_3⟩:=aj h_3;refine AStep.mk hc9 ?_;cbv;obtain⟨x12,hx12,h_3⟩:=aH h_3;try dsimp only at h_3
   refine AGet.mk _ (bp hg ht hx12) ?_;cbv;refine AGh.cls 2 1 (nat (wrap .i64 (sub v5 1))) (d_LI64 y1) _ _ _ _ (d_LI64 y1) rfl rfl ⟨rfl,(ak hg ht _)⟩ (kg hg ht hx8) ?_;cbv;refine AGh.nil ?_;cbv;try rw[hg] at h_3
   try rw[ht] at h_3
   refine⟨⟨(n3,x11,x12,(wrap .i64 (sub v5 1)),l6),h_3⟩,Wk.of [(0,some 0),(1,some 1),(2,some 2),(3,some 420)] rfl rfl ?_ ?_,Nat.lt_succ_self _⟩
   ·cbv;all_goals exact⟨⟨_,rfl,rfl⟩,⟨_,rfl,rfl⟩,⟨_,rfl,rfl⟩,⟨_,rfl,rfl⟩,⟨_,rfl,rfl⟩,⟨_,rfl,rfl⟩,⟨_,rfl,rfl⟩,⟨_,rfl,rfl⟩,⟨_,rfl,rfl⟩,trivial⟩
   cbv;all_goals exact⟨⟨_,rfl,_,rfl,rfl,rfl,rfl,trivial⟩,⟨_,rfl,rfl⟩,⟨_,rfl,rfl⟩,⟨_,rfl,rfl⟩,trivial⟩
  rw[aa hb7] at h_3;have hK_:=h_3;subst hb7;have h_3:=hK_;clear hK_;cbv;obtain rfl:=Option.some.inj h_3;try dsimp only[lr,lrL,lrp,aW] at h
  obtain rfl:=Option.some.inj h;exact ARet.mk trivial (by rw[hX];first|rfl|(simp only[Trip.ds,Scan.ds,Leg.ds,Network.ds,Booking.ds,Belief.ds,Cur.ds,Spot.ds,Know.ds,hnil_Trip];try rfl))
 rintro y3 hy3;replace hy3:=hy3.symm;subst hy3;try dsimp only[lr,lrL,lrp,aW] at h
 cbv;obtain⟨l7,hl7,h⟩:=ag h;try dsimp only at h
 refine ANew.mk (d_Trip l7) (dlen (d_Trip l7)) (by rw[←hl7];exact g7 hg ht []) (by rw[←hl7];exact fH hg ht []) ?_;cbv;obtain⟨o4,ho4,h⟩:=ae h;try dsimp only at h
 try rw[hg] at ho4
 try rw[ht] at ho4
 refine ABL.mk {p:Nat×(List Trip)×Int//ej G.real TE.real y3 p.1 p.2.1 p.2.2=some o4} (fun⟨⟨n4,w3,v6⟩,_⟩=>({sl:=[(19,.c (.f 0 2 0 (dlen (d_Trip y3)))),(22,.c (.f 1 2 0 (dlen (d_Trip w3)))),(23,.c (.r (.v (.int .i64 v6))))],tab:=[(0,some (.arr 2 (d_Trip y3))),(1,some (.arr 2 (d_Trip w3)))]}:St)) 2 (fun p=>p.1.1) ⟨(1000000000,l7,(wrap .i64 (sub (int (dlen (d_Trip y3))) 1))),ho4⟩ (List Trip) (fun y4=>({sl:=[(22,.c (.f 0 2 0 (dlen (d_Trip y4))))],tab:=[(0,some (.arr 2 (d_Trip y4)))]}:St)) 1 (fun y=>o4=y) ?_ ?_ ?_
 ·refine Wk.of [(0,some 0),(1,some 1)] rfl rfl ?_ ?_
  ·cbv;all_goals exact⟨⟨_,rfl,rfl⟩,⟨_,rfl,rfl⟩,⟨_,rfl,rfl⟩,trivial⟩
  cbv;all_goals exact⟨⟨_,rfl,rfl⟩,⟨_,rfl,rfl⟩,trivial⟩
 ·rintro⟨⟨n4,w3,v6⟩,h_4⟩ hq4;try dsimp only at h_4
  clear hq4;rcases n4 with _|n4
  ·rw[ej] at h_4;cases h_4
  rw[ej] at h_4;try rw[←hg] at h_4
  try rw[←ht] at h_4
  try dsimp only at h_4
  cbv
  cases hb8:(le 0 v6)
  ·rw[aa hb8] at h_4;cbv;refine⟨w3,Wk.of [(0,some 1)] rfl rfl ?_ ?_,(Option.some.inj h_4).symm⟩
   ·cbv;all_goals exact⟨⟨_,rfl,rfl⟩,trivial⟩
   cbv;all_goals exact⟨⟨_,rfl,rfl⟩,trivial⟩
  rw[ab hb8] at h_4;cbv;obtain⟨hc11,h_4⟩:=aj h_4;refine AStep.mk hc11 ?_;cbv;obtain⟨x13,hx13,h_4⟩:=aH h_4;obtain⟨x13_Leg,x13_Day⟩:=x13;try dsimp only at h_4
  refine AGet.mk _ (w8 hg ht hx13) ?_;cbv;obtain⟨l8,hl8,h_4⟩:=ag h_4;try dsimp only at h_4
  refine ANew.mk (d_Trip l8) (dlen (d_Trip l8)) (by rw[←hl8];exact g7 hg ht [(Trip.mk x13_Leg x13_Day)]) (by rw[←hl8];exact fH hg ht [(Trip.mk x13_Leg x13_Day)]) ?_;cbv;obtain⟨hc12,h_4⟩:=aj h_4;refine AStep.mk ⟨⟨rfl,(aV hg ht _)⟩,(iY hg ht (aV hg ht _) rfl hc12)⟩ ?_;cbv;obtain⟨l9,hl9,h_4⟩:=ag h_4;try dsimp only at h_4
  refine ANew.mk (d_Trip l9) (dlen (d_Trip l9)) (by rw[←hl9];exact mU hg ht (aV hg ht _) rfl) (by rw[←hl9];exact lx hg ht (aV hg ht _) rfl) ?_;cbv;try rw[hg] at h_4
  try rw[ht] at h_4
  refine⟨⟨(n4,l9,(wrap .i64 (sub v6 1))),h_4⟩,Wk.of [(0,some 0),(1,some 130)] rfl rfl ?_ ?_,Nat.lt_succ_self _⟩
  ·cbv;all_goals exact⟨⟨_,rfl,rfl⟩,⟨_,rfl,rfl⟩,⟨_,rfl,rfl⟩,trivial⟩
  cbv;all_goals exact⟨⟨_,rfl,rfl⟩,⟨_,rfl,rfl⟩,trivial⟩
 rintro y4 hy4;replace hy4:=hy4.symm;subst hy4;try dsimp only[lr,lrL,lrp,aW] at h
 cbv;obtain rfl:=Option.some.inj h;exact ARet.mk ⟨rfl,(aV hg ht _)⟩ hX.symm
def ir56:J:=js [jq 1 (.box 0),jq 2 (.mv (.k (.c .un)))] [1] (js [jq 3 (.clo false 111 [1]),jm 2 3] [2] .ret)
def rv56:List RV:=[.t 2]
def jx (g:G) (t:TE) (a0:Network):Fd:=
 (Fd.I_nextOf_1 a0)
theorem rR {g:G} {t:TE} {a0:Network} {r:Fd} (hg:g=G.real) (ht:t=TE.real) (h:jx g t a0=r):Fn Tryz.prog 56 [.g (Network.rs t a0)] (.c (.r (t.r_Fd r))):=by
 obtain⟨X,hX⟩:=aE (.c (.r (t.r_Fd r)):X);rw[←hX];refine az (rvs:=rv56) (j:=ir56) Tryz.func56 rfl (by kernel_rfl) (nb rfl) (by kernel_rfl) ac ?_;intro g2 F hg2 hF;obtain rfl:g2=g:=hg2.unique.trans hg.symm;clear hg2;obtain⟨_⟩:=g2;obtain⟨_,_,_,_,_,_,_,_,_,_,_,_,_,_,_,_,r_Fd⟩:=t
 obtain⟨a0_Legs,a0_Off,a0_Change⟩:=a0;unfold jx at h;try dsimp only at h
 cbv;refine AClo.mk (r_Fd (Fd.I_nextOf_1 (Network.mk a0_Legs a0_Off a0_Change))) (k8 ht (Network.mk a0_Legs a0_Off a0_Change)) ?_;cbv;subst h;exact ARet.mk trivial hX.symm
def ir13:J:=js [jq 4 (.box 0),jq 8 (.mv (.k (.c (.n 2)))),jm 9 kf] [1,2,3,4] (.seq (js [jl 12 3 4,jc 13 54 [12],jq 14 (.not 13)] [1,2,3,4,14] (.cond 14 (js [jq 8 (.mv (.k (.c (.n 2)))),jm 9 kf] [8,9] .ret) .skip)) (.seq (.reg (some [[],[],[1],[],[],[],[0,1,2,3,4,5],[0,1,2,3,4,5,6],[0,1,2,3,4,5,6,7],[0,1,2,3,4,5,6,7],[0,1,2,3,4,5,6,7,8],[0,1,2,3,4,5,6,7,8,9,10]]) [jl 16 3 4,jl 17 3 4,jc 18 56 [17],jm 19 1,jm 20 2,jm 21 3,jc 22 55 [16,18,19,20,21],jm 15 22,jq 23 (.ext 0 15),jq 24 (.ext 1 15),jm 10 23,jm 11 24] [10,11]) (js [jm 25 10,jm 26 11,jm 8 25,jm 9 26] [8,9] .ret)))
def rv13:List RV:=[.t 8,.t 9]
def iq (g:G) (t:TE) (a0:Network) (a1:ByteArray) (a2:ByteArray) (a3:Int):Option ((List Trip)×Bool):=
 cl (cN g t a0) fun x1=>
 br x1
 (
  lP (jx g t a0) fun x2=>
  cl (pD g t a0 x2 a1 a2 a3) fun x3=>
  some ((x3.1,x3.2)))
 (
  some (([],false)))
theorem wM {g:G} {t:TE} {a0:Network} {a1:ByteArray} {a2:ByteArray} {a3:Int} {r:(List Trip)×Bool} (hg:g=G.real) (ht:t=TE.real) (h:iq g t a0 a1 a2 a3=some r):Fn Tryz.prog 13 [.g (Network.rs t a0),.c (.v (.string a1)),.c (.v (.string a2)),.c (.v (.int .i64 a3))] (.u [.c (.o 2 (t.d_Trip r.1)),.c (.r (.v (.bool r.2)))]):=by
 obtain⟨X,hX⟩:=aE (.u [.c (.o 2 (t.d_Trip r.1)),.c (.r (.v (.bool r.2)))]:X);rw[←hX];refine az (rvs:=rv13) (j:=ir13) Tryz.func13 rfl (by kernel_rfl) (nb rfl) (by kernel_rfl) ac ?_;intro g2 F hg2 hF;obtain rfl:g2=g:=hg2.unique.trans hg.symm;clear hg2;obtain⟨_⟩:=g2;obtain⟨_,_,_,_,_,_,_,_,_,d_Trip⟩:=t
 obtain⟨a0_Legs,a0_Off,a0_Change⟩:=a0;have hnil_Trip:d_Trip []=[]:=ma ht;unfold iq at h;try dsimp only at h
 cbv;obtain⟨x1,hx1,h⟩:=ae h;try dsimp only at h
 refine ACall.mk _ _ rfl (hF _ _ _ (fh hg ht hx1)) (.inl rfl) (nb rfl) ?_;cbv
 cases hb1:x1
 ·rw[aa hb1] at h;cbv;obtain rfl:=Option.some.inj h;exact ARet.mk trivial (by rw[hX];first|rfl|(simp only[Trip.ds,Scan.ds,Leg.ds,Network.ds,Booking.ds,Belief.ds,Cur.ds,Spot.ds,Know.ds,hnil_Trip];try rfl))
 rw[ab hb1] at h;cbv;obtain⟨x2,hx2,h⟩:=ag h;try dsimp only at h
 refine ACall.mk _ _ rfl (hF _ _ _ (rR hg ht hx2)) (.inl rfl) (nb rfl) ?_;cbv;obtain⟨x3,hx3,h⟩:=ae h;obtain⟨x3_1,x3_2⟩:=x3;try dsimp only at h
 refine ACall.mk _ _ rfl (hF _ _ _ (zU hg ht hx3)) (.inl rfl) (nb rfl) ?_;cbv;obtain rfl:=Option.some.inj h;exact ARet.mk ⟨rfl,(aV hg ht _)⟩ hX.symm
def ir59:J:=js [jm 4 (ki 0)] [0,1] (.seq (js [jm 5 (ki 0)] [0,1,5] (.bl 0 (.seq (js [jm 6 5,jm 7 0,jq 8 (.len false 7),jb 9 .lss .i 6 8] [0,1,5,9] (.cond 9 .skip (.exit 0))) (.seq (.block 1 (js [jm 12 0,jm 13 5,ja 14 1 12 13,jk 15 14,jm 16 1,jb 17 .eql .s 15 16] [0,1,5,17] (.cond 17 (js [jm 18 5,jm 4 18] [4] .ret) .skip))) (.reg none [jm 10 5,jb 11 .add .i 10 (ki 1),jm 5 11] [0,1,5]))))) (js [jq 4 (.mv (.k (V.i (-1))))] [4] .ret))
def rv59:List RV:=[.t 4]
def dn (g:G) (t:TE) (a1:ByteArray):List ByteArray→Int→LR Int Unit
 |[],v1=>
  (LR.out ())
 |z1::ls1,v1=>
  br (g.seq z1 a1)
  (
   (LR.ret v1))
  (
   dn g t a1 ls1 (g.wrap .i64 (g.add v1 1)))
def c9 (g:G) (t:TE) (a0:List ByteArray) (a1:ByteArray):Int:=
 lP (dn g t a1 a0 0) fun o1=>lrp o1 fun y1=>
 (-1)
theorem dN {g:G} {t:TE} {a0:List ByteArray} {a1:ByteArray} {r:Int} (hg:g=G.real) (ht:t=TE.real) (h:c9 g t a0 a1=r):Fn Tryz.prog 59 [.c (.s 1 (t.r_S a0)),.c (.v (.string a1))] (.c (.r (.v (.int .i64 r)))):=by
 obtain⟨X,hX⟩:=aE (.c (.r (.v (.int .i64 r))):X);rw[←hX];refine az (rvs:=rv59) (j:=ir59) Tryz.func59 rfl (by kernel_rfl) (nb rfl) (by kernel_rfl) ac ?_;intro g2 F hg2 hF;obtain rfl:g2=g:=hg2.unique.trans hg.symm;clear hg2;obtain⟨wrap,lt,_,_,_,_,_,_,_,_,_,_,_,add,_,_,_,seq,_,_,_,llen⟩:=g2;obtain⟨_,_,_,_,_,_,_,_,_,_,_,_,r_S⟩:=t
 unfold c9 at h;try dsimp only at h
 cbv;obtain⟨o1,ho1,h⟩:=ag h;try dsimp only at h
 try rw[hg] at ho1
 try rw[ht] at ho1
 refine ABL.mk {p:Nat×Int//p.1≤a0.length∧p.2=((p.1:Nat):Int)∧dn G.real TE.real a1 (List.drop p.1 a0) p.2=o1} (fun⟨⟨k1,v1⟩,_⟩=>({sl:=[(0,.c (.r (.s 1 (r_S a0)))),(1,.c (.r (.v (.string a1)))),(5,.c (.r (.v (.int .i64 v1))))],tab:=[]}:St)) 0 (fun p=>a0.length-p.1.1) ⟨(0,0),Nat.zero_le _,rfl,ho1⟩ (Unit) (fun _=>({sl:=[],tab:=[]}:St)) 0 (fun y=>o1=LR.out y) ?_ ?_ ?_
 ·refine Wk.of [] rfl rfl ?_ ?_
  ·cbv;all_goals exact⟨⟨_,rfl,rfl⟩,⟨_,rfl,rfl⟩,⟨_,rfl,rfl⟩,trivial⟩
  cbv;all_goals exact trivial
 ·rintro⟨⟨k1,v1⟩,hk1,hi1,h_1⟩ hq1;have hm1:=(hq1.1 0 _ _ rfl);try dsimp only at hk1 hi1 h_1
  clear hq1;cbv
  by_cases hc1_:k1<a0.length
  ·have hb1:lt v1 (llen (r_S a0))=true:=iC hg ht hi1 hc1_;have hs1:=m9 hg ht hi1 hc1_ hm1;obtain⟨z1,hz1⟩:=aD hc1_;rw[aw hz1] at h_1;rw[dn] at h_1;try rw[←hg] at h_1
   try rw[←ht] at h_1
   try dsimp only at h_1
   rw[hb1];cbv;refine AStep.mk (fB hi1) ?_;cbv;refine AGet.mk _ (mO hg ht hi1 hz1) ?_;cbv
   cases hb2:(seq z1 a1)
   rotate_left
   ·rw[ab hb2] at h_1;cbv;subst h_1;try dsimp only[lr,lrL,lrp,aW] at h
    subst h;exact ARet.mk trivial hX.symm
   rw[aa hb2] at h_1;cbv;try rw[hg] at h_1
   try rw[ht] at h_1
   refine⟨⟨(k1+1,(wrap .i64 (add v1 1))),hc1_,hs1,h_1⟩,Wk.of [] rfl rfl ?_ ?_,aJ hc1_⟩
   ·cbv;all_goals exact⟨⟨_,rfl,rfl⟩,⟨_,rfl,rfl⟩,⟨_,rfl,rfl⟩,trivial⟩
   cbv;all_goals exact trivial
  have hb1:lt v1 (llen (r_S a0))=false:=g0 hg ht hi1 hc1_;rw[List.drop_of_length_le (Nat.le_of_not_lt hc1_)] at h_1;rw[dn] at h_1;try rw[←hg] at h_1
  try rw[←ht] at h_1
  try dsimp only at h_1
  rw[hb1];cbv;refine⟨(),Wk.of [] rfl rfl ?_ ?_,h_1.symm⟩
  ·cbv;all_goals exact trivial
  cbv;all_goals exact trivial
 rintro _ hy1;replace hy1:=hy1.symm;subst hy1;try dsimp only[lr,lrL,lrp,aW] at h
 cbv;subst h;exact ARet.mk trivial hX.symm
def Hj:J:=js [jm 6 kf] [0,1,2] (js [jm 7 0,jm 8 1,jb 9 .geq .i 7 8,jm 10 9,ju 11 10 (.mv 0),ju 12 10 (.mv 2),ju 13 10 (.bin .leq .i 11 12),jq 14 (.pick 10 13 kf),jm 6 14] [6] .ret)
def Hc:List RV:=[.t 6]
def gC (g:G) (t:TE) (a0:Int) (a1:Int) (a2:Int):Bool:=
 br (g.le a1 a0)
 (
  (g.le a0 a2))
 (
  false)
theorem fY {g:G} {t:TE} {a0:Int} {a1:Int} {a2:Int} {r:Bool} (hg:g=G.real) (ht:t=TE.real) (h:gC g t a0 a1 a2=r):Fn Tryz.prog 141 [.c (.v (.int .i64 a0)),.c (.v (.int .i64 a1)),.c (.v (.int .i64 a2))] (.c (.r (.v (.bool r)))):=by
 obtain⟨X,hX⟩:=aE (.c (.r (.v (.bool r))):X);rw[←hX];refine az (rvs:=Hc) (j:=Hj) Tryz.func141 rfl (by kernel_rfl) (nb rfl) (by kernel_rfl) ac ?_;intro g2 F hg2 hF;obtain rfl:g2=g:=hg2.unique.trans hg.symm;clear hg2;obtain⟨_,_,le⟩:=g2;obtain⟨_⟩:=t
 unfold gC at h;try dsimp only at h
 cbv
 cases hb1:(le a1 a0)
 rotate_left
 ·rw[ab hb1] at h;cbv;iterate 3 try(rw[hb1];cbv)
  subst h;exact ARet.mk trivial hX.symm
 rw[aa hb1] at h;cbv;iterate 3 try(rw[hb1];cbv)
 subst h;exact ARet.mk trivial hX.symm
def HJ:J:=js [jm 2 kf] [0] (.seq (js [jm 4 0,jq 5 (.len true 4),jb 6 .neq .i 5 (ki 3)] [0,6] (.cond 6 (js [jm 2 kf] [2] .ret) .skip)) (.seq (js [jm 3 (ki 0)] [0,3] (.bl 0 (.seq (js [jm 7 3,jb 8 .lss .i 7 (ki 3)] [0,3,8] (.cond 8 .skip (.exit 0))) (.seq (.block 1 (js [jm 11 0,jm 12 3,jq 13 (.idx 11 12),jq 14 (.cvt .i64 13),jc 15 141 [14,(ki 65),(ki 90)],jq 16 (.not 15)] [0,3,16] (.cond 16 (js [jm 2 kf] [2] .ret) .skip))) (.reg none [jm 9 3,jb 10 .add .i 9 (ki 1),jm 3 10] [0,3]))))) (js [jm 2 kt] [2] .ret)))
def G5:List RV:=[.t 2]
def di (g:G) (t:TE) (a0:ByteArray):Nat→Int→Option (LR Bool Unit)
 |0,v1=>
  some (LR.out ())
 |n1+1,v1=>
  gd (((0:Int)≤v1∧v1<(((a0.size):Nat):Int)))<|
  lP (gC g t (g.wrap .i64 (g.byte a0 v1)) 65 90) fun x1=>
  br x1
  (
   di g t a0 n1 (g.wrap .i64 (g.add v1 1)))
  (
   some (LR.ret false))
def ip (g:G) (t:TE) (a0:ByteArray):Option Bool:=
 br (g.eq (g.int (g.slen a0)) 3)
 (
  cl (di g t a0 (aA 0 3) 0) fun o1=>lr o1 fun y1=>
  some true)
 (
  some false)
theorem ph {g:G} {t:TE} {a0:ByteArray} {r:Bool} (hg:g=G.real) (ht:t=TE.real) (h:ip g t a0=some r):Fn Tryz.prog 177 [.c (.v (.string a0))] (.c (.r (.v (.bool r)))):=by
 obtain⟨X,hX⟩:=aE (.c (.r (.v (.bool r))):X);rw[←hX];refine az (rvs:=G5) (j:=HJ) Tryz.func177 rfl (by kernel_rfl) (nb rfl) (by kernel_rfl) ac ?_;intro g2 F hg2 hF;obtain rfl:g2=g:=hg2.unique.trans hg.symm;clear hg2;obtain⟨wrap,lt,_,eq,_,_,_,_,_,_,_,_,int,add,_,_,_,_,_,_,_,_,_,_,_,_,_,_,_,_,_,_,_,_,_,slen⟩:=g2;obtain⟨_⟩:=t
 unfold ip at h;try dsimp only at h
 cbv
 cases hb1:(eq (int (slen a0)) 3)
 ·rw[aa hb1] at h;cbv;obtain rfl:=Option.some.inj h;exact ARet.mk trivial hX.symm
 rw[ab hb1] at h;cbv;obtain⟨o1,ho1,h⟩:=ae h;try dsimp only at h
 try rw[hg] at ho1
 try rw[ht] at ho1
 refine ABL.mk {p:Nat×Int//p.1=aA p.2 3∧0≤p.2∧di G.real TE.real a0 p.1 p.2=some o1} (fun⟨⟨n1,v1⟩,_⟩=>({sl:=[(0,.c (.r (.v (.string a0)))),(3,.c (.r (.v (.int .i64 v1))))],tab:=[]}:St)) 0 (fun p=>p.1.1) ⟨(aA 0 3,0),rfl,Int.le_refl _,ho1⟩ (Unit) (fun _=>({sl:=[],tab:=[]}:St)) 0 (fun y=>o1=LR.out y) ?_ ?_ ?_
 ·refine Wk.of [] rfl rfl ?_ ?_
  ·cbv;all_goals exact⟨⟨_,rfl,rfl⟩,⟨_,rfl,rfl⟩,trivial⟩
  cbv;all_goals exact trivial
 ·rintro⟨⟨n1,v1⟩,hn1,hi1,h_1⟩ hq1;try dsimp only at hn1 hi1 h_1
  clear hq1;cbv;rcases n1 with _|n1
  ·have hb2:lt v1 3=false:=cu hg hn1;rw[di] at h_1;try rw[←hg] at h_1
   try rw[←ht] at h_1
   try dsimp only at h_1
   rw[hb2];cbv;refine⟨(),Wk.of [] rfl rfl ?_ ?_,(Option.some.inj h_1).symm⟩
   ·cbv;all_goals exact trivial
   cbv;all_goals exact trivial
  have hb2:lt v1 3=true:=dj hg hn1;have hl1:=gk hn1;have hs1:=ef hg hn1 hi1 (by decide) (by decide);rw[di] at h_1;try rw[←hg] at h_1
  try rw[←ht] at h_1
  try dsimp only at h_1
  rw[hb2];cbv;obtain⟨hc1,h_1⟩:=aj h_1;refine AStep.mk hc1 ?_;cbv;obtain⟨x1,hx1,h_1⟩:=ag h_1;try dsimp only at h_1
  refine ACall.mk _ _ rfl (hF _ _ _ (fY hg ht hx1)) (.inl rfl) (nb rfl) ?_;cbv
  cases hb3:x1
  ·rw[aa hb3] at h_1;cbv;obtain rfl:=Option.some.inj h_1;try dsimp only[lr,lrL,lrp,aW] at h
   obtain rfl:=Option.some.inj h;exact ARet.mk trivial hX.symm
  rw[ab hb3] at h_1;cbv;try rw[hg] at h_1
  try rw[ht] at h_1
  refine⟨⟨(n1,(wrap .i64 (add v1 1))),hs1.1,hs1.2,h_1⟩,Wk.of [] rfl rfl ?_ ?_,Nat.lt_succ_self _⟩
  ·cbv;all_goals exact⟨⟨_,rfl,rfl⟩,⟨_,rfl,rfl⟩,trivial⟩
  cbv;all_goals exact trivial
 rintro _ hy1;replace hy1:=hy1.symm;subst hy1;try dsimp only[lr,lrL,lrp,aW] at h
 cbv;obtain rfl:=Option.some.inj h;exact ARet.mk trivial hX.symm
def HD:J:=js [jq 1 (.box 0),jm 2 kf] [1] (js [jf 3 0 1,jk 4 3,jc 5 177 [4],jm 6 5,ju 7 6 (.fa 1 1),ju 8 6 (.ld false 1 7),ju 9 6 (.call 177 true [8]),jq 10 (.pick 6 9 kf),jm 11 10,ju 12 11 (.fa 0 1),ju 13 11 (.ld false 1 12),ju 14 11 (.fa 1 1),ju 15 11 (.ld false 1 14),ju 16 11 (.bin .neq .s 13 15),jq 17 (.pick 11 16 kf),jm 18 17,ju 19 18 (.fa 2 1),ju 20 18 (.ld false 1 19),ju 21 18 (.call 141 true [20,(ki 0),(ki 1439)]),jq 22 (.pick 18 21 kf),jm 23 22,ju 24 23 (.fa 3 1),ju 25 23 (.ld false 1 24),ju 26 23 (.call 141 true [25,(ki 1),(ki 4320)]),jq 27 (.pick 23 26 kf),jm 28 27,ju 29 28 (.fa 4 1),ju 30 28 (.ld false 1 29),ju 31 28 (.call 141 true [30,(ki 1),(ki 127)]),jq 32 (.pick 28 31 kf),jm 33 32,ju 34 33 (.fa 5 1),ju 35 33 (.ld false 1 34),ju 36 33 (.call 141 true [35,(ki 0),(ki 1000000)]),jq 37 (.pick 33 36 kf),jm 2 37] [2] .ret)
def GA:List RV:=[.t 2]
def nk (g:G) (t:TE) (a0:Leg):Option Bool:=
 cl (ip g t a0.From) fun x1=>
 br x1
 (
  cl (ip g t a0.To) fun x2=>
  br x2
  (
   br (g.seq a0.From a0.To)
   (
    some false)
   (
    lP (gC g t a0.Start 0 1439) fun x3=>
    br x3
    (
     lP (gC g t a0.Takes 1 4320) fun x4=>
     br x4
     (
      lP (gC g t a0.Days 1 127) fun x5=>
      br x5
      (
       lP (gC g t a0.Room 0 1000000) fun x6=>
       some x6)
      (
       some false))
     (
      some false))
    (
     some false)))
  (
   some false))
 (
  some false)
theorem AD {g:G} {t:TE} {a0:Leg} {r:Bool} (hg:g=G.real) (ht:t=TE.real) (h:nk g t a0=some r):Fn Tryz.prog 150 [.g (Leg.rs t a0)] (.c (.r (.v (.bool r)))):=by
 obtain⟨X,hX⟩:=aE (.c (.r (.v (.bool r))):X);rw[←hX];refine az (rvs:=GA) (j:=HD) Tryz.func150 rfl (by kernel_rfl) (nb rfl) (by kernel_rfl) ac ?_;intro g2 F hg2 hF;obtain rfl:g2=g:=hg2.unique.trans hg.symm;clear hg2;obtain⟨_,_,_,_,_,_,_,_,_,_,_,_,_,_,_,_,_,seq⟩:=g2;obtain⟨_⟩:=t
 obtain⟨a0_From,a0_To,a0_Start,a0_Takes,a0_Days,a0_Room⟩:=a0;unfold nk at h;try dsimp only at h
 cbv;obtain⟨x1,hx1,h⟩:=ae h;try dsimp only at h
 refine ACall.mk _ _ rfl (hF _ _ _ (ph hg ht hx1)) (.inl rfl) (nb rfl) ?_;cbv
 cases hb1:x1
 ·rw[aa hb1] at h;cbv;iterate 3 try(rw[hb1];cbv)
  obtain rfl:=Option.some.inj h;exact ARet.mk trivial hX.symm
 rw[ab hb1] at h;cbv;iterate 2 try(rw[hb1];cbv)
 obtain⟨x2,hx2,h⟩:=ae h;try dsimp only at h
 refine ACall.mk _ _ rfl (hF _ _ _ (ph hg ht hx2)) (.inl rfl) (nb rfl) ?_;cbv;try(rw[hb1];cbv)
 cases hb2:x2
 ·rw[aa hb2] at h;cbv;iterate 5 try(rw[hb2];cbv)
  obtain rfl:=Option.some.inj h;exact ARet.mk trivial hX.symm
 rw[ab hb2] at h;cbv;iterate 5 try(rw[hb2];cbv)
 cases hb3:(seq a0_From a0_To)
 rotate_left
 ·rw[ab hb3] at h;cbv;iterate 3 try(rw[hb3];cbv)
  obtain rfl:=Option.some.inj h;exact ARet.mk trivial hX.symm
 rw[aa hb3] at h;cbv;iterate 2 try(rw[hb3];cbv)
 obtain⟨x3,hx3,h⟩:=ag h;try dsimp only at h
 refine ACall.mk _ _ rfl (hF _ _ _ (fY hg ht hx3)) (.inl rfl) (nb rfl) ?_;cbv;try(rw[hb3];cbv)
 cases hb4:x3
 ·rw[aa hb4] at h;cbv;iterate 3 try(rw[hb4];cbv)
  obtain rfl:=Option.some.inj h;exact ARet.mk trivial hX.symm
 rw[ab hb4] at h;cbv;iterate 2 try(rw[hb4];cbv)
 obtain⟨x4,hx4,h⟩:=ag h;try dsimp only at h
 refine ACall.mk _ _ rfl (hF _ _ _ (fY hg ht hx4)) (.inl rfl) (nb rfl) ?_;cbv;try(rw[hb4];cbv)
 cases hb5:x4
 ·rw[aa hb5] at h;cbv;iterate 3 try(rw[hb5];cbv)
  obtain rfl:=Option.some.inj h;exact ARet.mk trivial hX.symm
 rw[ab hb5] at h;cbv;iterate 2 try(rw[hb5];cbv)
 obtain⟨x5,hx5,h⟩:=ag h;try dsimp only at h
 refine ACall.mk _ _ rfl (hF _ _ _ (fY hg ht hx5)) (.inl rfl) (nb rfl) ?_;cbv;try(rw[hb5];cbv)
 cases hb6:x5
 ·rw[aa hb6] at h;cbv;iterate 3 try(rw[hb6];cbv)
  obtain rfl:=Option.some.inj h;exact ARet.mk trivial hX.symm
 rw[ab hb6] at h;cbv;iterate 2 try(rw[hb6];cbv)
 obtain⟨x6,hx6,h⟩:=ag h;try dsimp only at h
 refine ACall.mk _ _ rfl (hF _ _ _ (fY hg ht hx6)) (.inl rfl) (nb rfl) ?_;cbv;try(rw[hb6];cbv)
 obtain rfl:=Option.some.inj h;exact ARet.mk trivial hX.symm
def HC:J:=js [jq 1 (.box 0),jm 2 kf] [1] (.seq (js [jm 3 (ki 0)] [1,3] (.bl 0 (.seq (js [jm 5 3,jf 6 0 1,jk 7 6,jq 8 (.len false 7),jb 9 .lss .i 5 8] [1,3,9] (.cond 9 .skip (.exit 0))) (.seq (.block 1 (js [jf 12 0 1,jk 13 12,jm 14 3,ja 15 6 13 14,jl 16 6 15,jc 17 150 [16],jq 18 (.not 17)] [1,3,18] (.cond 18 (js [jm 2 kf] [2] .ret) .skip))) (.reg none [jm 10 3,jb 11 .add .i 10 (ki 1),jm 3 11] [1,3]))))) (.seq (js [jm 4 (ki 0)] [1,4] (.bl 2 (.seq (js [jm 19 4,jf 20 1 1,jk 21 20,jq 22 (.len false 21),jb 23 .lss .i 19 22] [1,4,23] (.cond 23 .skip (.exit 2))) (.seq (.block 3 (.seq (.reg (some [[],[0],[],[0,1,2],[0,1,2,3],[0,1,2,3,4],[0,1,2,3,4,5],[0,1,2,3,4,5,6],[0,1,2,3,4,5,6,7],[0,1,2,3,4,5,6,7,8],[0,1,2,3,4,5,6,7,8,9],[0,1,2,3,4,5,6,7,8,9,10],[0,1,2,3,4,5,6,7,8,9,10,11],[0,1,2,3,4,5,6,7,8,9,10],[0,1,2,3,4,5,6,7,8,9,10,13],[0,1,2,3,4,5,6,7,8,9,10,11,12,13,14],[0,1,2,3,4,5,6,7,8,9,10,11,12,13,14,15],[0,1,2,3,4,5,6,7,8,9,10],[0,1,2,3,4,5,6,7,8,9,10,17],[0,1,2,3,4,5,6,7,8,9,10],[0,1,2,3,4,5,6,7,8,9,10,17,18,19],[0,1,2,3,4,5,6,7,8,9,10,17,18,19,20],[0,1,2,3,4,5,6,7,8,9,10,11,12,13,14,15,16,17,18,19,20,21],[0,1,2,3,4,5,6,7,8,9,10,11,12,13,14,15,16,17,18,19,20,21,22],[0,1,2,3,4,5,6,7,8,9,10,11,12,13,14,15,16,17,18,19,20,21,22,23]]) [jf 26 1 1,jk 27 26,jm 28 4,ja 29 1 27 28,jk 30 29,jc 31 141 [30,(ki 0),(ki 60)],jq 32 (.not 31),jm 33 32,jv 34 33 (.mv 4),jv 35 33 (.bin .gtr .i 34 (ki 0)),jv 36 33 (.mv 35),ju 37 36 (.fa 1 1),ju 38 36 (.ld false 1 37),ju 39 36 (.mv 4),ju 40 36 (.bin .sub .i 39 (ki 1)),ju 41 36 (.ia 1 38 40),ju 42 36 (.ld false 1 41),ju 43 36 (.fa 1 1),ju 44 36 (.ld false 1 43),ju 45 36 (.mv 4),ju 46 36 (.ia 1 44 45),ju 47 36 (.ld false 1 46),ju 48 36 (.bin .geq .i 42 47),jv 49 33 (.pick 36 48 kf),jq 50 (.pick 33 kt 49)] [1,4,50]) (.cond 50 (js [jm 2 kf] [2] .ret) .skip))) (.reg none [jm 24 4,jb 25 .add .i 24 (ki 1),jm 4 25] [1,4]))))) (js [jf 51 0 1,jk 52 51,jq 53 (.len false 52),jb 54 .leq .i 53 (ki 20),jm 55 54,ju 56 55 (.fa 1 1),ju 57 55 (.ld false 1 56),ju 58 55 (.len false 57),ju 59 55 (.bin .leq .i 58 (ki 10)),jq 60 (.pick 55 59 kf),jm 61 60,ju 62 61 (.fa 2 1),ju 63 61 (.ld false 1 62),ju 64 61 (.call 141 true [63,(ki 0),(ki 240)]),jq 65 (.pick 61 64 kf),jm 2 65] [2] .ret)))
def Gt:List RV:=[.t 2]
def bK (g:G) (t:TE) (a0:Network):List Int→Int→Option (LR Bool Unit)
 |[],v2=>
  some (LR.out ())
 |z2::ls2,v2=>
  lP (gC g t z2 0 60) fun x2=>
  br x2
  (
   br (g.lt 0 v2)
   (
    gd (((0:Int)≤(g.wrap .i64 (g.sub v2 1))))<|
    gt a0.Off (g.nat (g.wrap .i64 (g.sub v2 1))) fun x3=>
    br (g.le z2 x3)
    (
     some (LR.ret false))
    (
     bK g t a0 ls2 (g.wrap .i64 (g.add v2 1))))
   (
    bK g t a0 ls2 (g.wrap .i64 (g.add v2 1))))
  (
   some (LR.ret false))
def cj (g:G) (t:TE):List Leg→Option (LR Bool Unit)
 |[]=>
  some (LR.out ())
 |z1::ls1=>
  cl (nk g t z1) fun x1=>
  br x1
  (
   cj g t ls1)
  (
   some (LR.ret false))
def dQ (g:G) (t:TE) (a0:Network):Option Bool:=
 cl (cj g t a0.Legs) fun o1=>lr o1 fun y1=>
 cl (bK g t a0 a0.Off 0) fun o2=>lr o2 fun y2=>
 br (g.le (g.llen (t.r_Leg a0.Legs)) 20)
 (
  br (g.le (g.llen (t.r_I64 a0.Off)) 10)
  (
   lP (gC g t a0.Change 0 240) fun x4=>
   some x4)
  (
   some false))
 (
  some false)
theorem lR {g:G} {t:TE} {a0:Network} {r:Bool} (hg:g=G.real) (ht:t=TE.real) (h:dQ g t a0=some r):Fn Tryz.prog 113 [.g (Network.rs t a0)] (.c (.r (.v (.bool r)))):=by
 obtain⟨X,hX⟩:=aE (.c (.r (.v (.bool r))):X);rw[←hX];refine az (rvs:=Gt) (j:=HC) Tryz.func113 rfl (by kernel_rfl) (nb rfl) (by kernel_rfl) ac ?_;intro g2 F hg2 hF;obtain rfl:g2=g:=hg2.unique.trans hg.symm;clear hg2;obtain⟨wrap,lt,le,_,_,_,_,_,_,_,_,_,_,add,_,_,_,_,_,_,_,llen⟩:=g2;obtain⟨_,_,_,_,r_Leg,_,r_I64⟩:=t
 obtain⟨a0_Legs,a0_Off,a0_Change⟩:=a0;unfold dQ at h;try dsimp only at h
 cbv;obtain⟨o1,ho1,h⟩:=ae h;try dsimp only at h
 try rw[hg] at ho1
 try rw[ht] at ho1
 refine ABL.mk {p:Nat×Int//p.1≤a0_Legs.length∧p.2=((p.1:Nat):Int)∧cj G.real TE.real (List.drop p.1 a0_Legs)=some o1} (fun⟨⟨k1,v1⟩,_⟩=>({sl:=[(1,.c (.p 0 3 0 0)),(3,.c (.r (.v (.int .i64 v1))))],tab:=[(0,some (.foc 3 [] [.r (.s 6 (r_Leg a0_Legs)),.r (.s 1 (r_I64 a0_Off)),.r (.v (.int .i64 a0_Change))] []))]}:St)) 1 (fun p=>a0_Legs.length-p.1.1) ⟨(0,0),Nat.zero_le _,rfl,ho1⟩ (Unit) (fun _=>({sl:=[(1,.c (.p 0 3 0 0))],tab:=[(0,some (.foc 3 [] [.r (.s 6 (r_Leg a0_Legs)),.r (.s 1 (r_I64 a0_Off)),.r (.v (.int .i64 a0_Change))] []))]}:St)) 1 (fun y=>o1=LR.out y) ?_ ?_ ?_
 ·refine Wk.of [(0,some 0)] rfl rfl ?_ ?_
  ·cbv;all_goals exact⟨⟨_,rfl,rfl⟩,⟨_,rfl,rfl⟩,trivial⟩
  cbv;all_goals exact⟨⟨_,rfl,_,rfl,rfl,rfl,rfl,trivial⟩,trivial⟩
 ·rintro⟨⟨k1,v1⟩,hk1,hi1,h_1⟩ hq1;have hm1:=(hq1.2.2.1 0 _ _ _ _ 0 _ _ rfl rfl);try dsimp only at hk1 hi1 h_1
  clear hq1;cbv
  by_cases hc1_:k1<a0_Legs.length
  ·have hb1:lt v1 (llen (r_Leg a0_Legs))=true:=dg hg ht hi1 hc1_;have hs1:=fG hg ht hi1 hc1_ hm1;obtain⟨z1,hz1⟩:=aD hc1_;rw[aw hz1] at h_1;rw[cj] at h_1;obtain⟨z1_From,z1_To,z1_Start,z1_Takes,z1_Days,z1_Room⟩:=z1;try rw[←hg] at h_1
   try rw[←ht] at h_1
   try dsimp only at h_1
   rw[hb1];cbv;refine AStep.mk (fB hi1) ?_;cbv;refine AGet.mk _ (dV hg ht hi1 hz1) ?_;cbv;obtain⟨x1,hx1,h_1⟩:=ae h_1;try dsimp only at h_1
   refine ACall.mk _ _ rfl (hF _ _ _ (AD hg ht hx1)) (.inl rfl) (nb rfl) ?_;cbv
   cases hb2:x1
   ·rw[aa hb2] at h_1;cbv;obtain rfl:=Option.some.inj h_1;try dsimp only[lr,lrL,lrp,aW] at h
    obtain rfl:=Option.some.inj h;exact ARet.mk trivial hX.symm
   rw[ab hb2] at h_1;cbv;try rw[hg] at h_1
   try rw[ht] at h_1
   refine⟨⟨(k1+1,(wrap .i64 (add v1 1))),hc1_,hs1,h_1⟩,Wk.of [(0,some 0)] rfl rfl ?_ ?_,aJ hc1_⟩
   ·cbv;all_goals exact⟨⟨_,rfl,rfl⟩,⟨_,rfl,rfl⟩,trivial⟩
   cbv;all_goals exact⟨⟨_,rfl,_,rfl,rfl,rfl,rfl,trivial⟩,trivial⟩
  have hb1:lt v1 (llen (r_Leg a0_Legs))=false:=cH hg ht hi1 hc1_;rw[List.drop_of_length_le (Nat.le_of_not_lt hc1_)] at h_1;rw[cj] at h_1;try rw[←hg] at h_1
  try rw[←ht] at h_1
  try dsimp only at h_1
  rw[hb1];cbv;refine⟨(),Wk.of [(0,some 0)] rfl rfl ?_ ?_,(Option.some.inj h_1).symm⟩
  ·cbv;all_goals exact⟨⟨_,rfl,rfl⟩,trivial⟩
  cbv;all_goals exact⟨⟨_,rfl,_,rfl,rfl,rfl,rfl,trivial⟩,trivial⟩
 rintro _ hy1;replace hy1:=hy1.symm;subst hy1;try dsimp only[lr,lrL,lrp,aW] at h
 cbv;obtain⟨o2,ho2,h⟩:=ae h;try dsimp only at h
 try rw[hg] at ho2
 try rw[ht] at ho2
 refine ABL.mk {p:Nat×Int//p.1≤a0_Off.length∧p.2=((p.1:Nat):Int)∧bK G.real TE.real (Network.mk a0_Legs a0_Off a0_Change) (List.drop p.1 a0_Off) p.2=some o2} (fun⟨⟨k2,v2⟩,_⟩=>({sl:=[(1,.c (.p 0 3 0 0)),(4,.c (.r (.v (.int .i64 v2))))],tab:=[(0,some (.foc 3 [] [.r (.s 6 (r_Leg a0_Legs)),.r (.s 1 (r_I64 a0_Off)),.r (.v (.int .i64 a0_Change))] []))]}:St)) 1 (fun p=>a0_Off.length-p.1.1) ⟨(0,0),Nat.zero_le _,rfl,ho2⟩ (Unit) (fun _=>({sl:=[(1,.c (.p 0 3 0 0))],tab:=[(0,some (.foc 3 [] [.r (.s 6 (r_Leg a0_Legs)),.r (.s 1 (r_I64 a0_Off)),.r (.v (.int .i64 a0_Change))] []))]}:St)) 1 (fun y=>o2=LR.out y) ?_ ?_ ?_
 ·refine Wk.of [(0,some 0)] rfl rfl ?_ ?_
  ·cbv;all_goals exact⟨⟨_,rfl,rfl⟩,⟨_,rfl,rfl⟩,trivial⟩
  cbv;all_goals exact⟨⟨_,rfl,_,rfl,rfl,rfl,rfl,trivial⟩,trivial⟩
 ·rintro⟨⟨k2,v2⟩,hk2,hi2,h_2⟩ hq2;have hm2:=(hq2.2.2.1 0 _ _ _ _ 1 _ _ rfl rfl);try dsimp only at hk2 hi2 h_2
  clear hq2;cbv
  by_cases hc2_:k2<a0_Off.length
  ·have hb3:lt v2 (llen (r_I64 a0_Off))=true:=fZ hg ht hi2 hc2_;have hs2:=jQ hg ht hi2 hc2_ hm2;obtain⟨z2,hz2⟩:=aD hc2_;rw[aw hz2] at h_2;rw[bK] at h_2;try rw[←hg] at h_2
   try rw[←ht] at h_2
   try dsimp only at h_2
   rw[hb3];cbv;refine AStep.mk (fB hi2) ?_;cbv;refine AGet.mk _ (gF hg ht hi2 hz2) ?_;cbv;obtain⟨x2,hx2,h_2⟩:=ag h_2;try dsimp only at h_2
   refine ACall.mk _ _ rfl (hF _ _ _ (fY hg ht hx2)) (.inl rfl) (nb rfl) ?_;cbv
   cases hb4:x2
   ·rw[aa hb4] at h_2;cbv;iterate 4 try(rw[hb4];cbv)
    obtain rfl:=Option.some.inj h_2;try dsimp only[lr,lrL,lrp,aW] at h
    obtain rfl:=Option.some.inj h;exact ARet.mk trivial hX.symm
   rw[ab hb4] at h_2;cbv;iterate 2 try(rw[hb4];cbv)
   cases hb5:(lt 0 v2)
   ·rw[aa hb5] at h_2;cbv;iterate 11 try(rw[hb5];cbv)
    try(rw[hb4];cbv)
    try(rw[hb5];cbv)
    try(rw[hb4];cbv)
    try rw[hg] at h_2
    try rw[ht] at h_2
    refine⟨⟨(k2+1,(wrap .i64 (add v2 1))),hc2_,hs2,h_2⟩,Wk.of [(0,some 0)] rfl rfl ?_ ?_,aJ hc2_⟩
    ·cbv;all_goals exact⟨⟨_,rfl,rfl⟩,⟨_,rfl,rfl⟩,trivial⟩
    cbv;all_goals exact⟨⟨_,rfl,_,rfl,rfl,rfl,rfl,trivial⟩,trivial⟩
   rw[ab hb5] at h_2;cbv;iterate 4 try(rw[hb5];cbv)
   obtain⟨hc1,h_2⟩:=aj h_2;refine AStep.mk hc1 ?_;cbv;obtain⟨x3,hx3,h_2⟩:=aH h_2;try dsimp only at h_2
   refine AGet.mk _ (ec hg ht hx3) ?_;cbv;iterate 5 try(rw[hb5];cbv)
   refine AStep.mk (fB hi2) ?_;cbv;refine AGet.mk _ (gF hg ht hi2 hz2) ?_;cbv;iterate 2 try(rw[hb5];cbv)
   try(rw[hb4];cbv)
   try(rw[hb5];cbv)
   try(rw[hb4];cbv)
   cases hb6:(le z2 x3)
   rotate_left
   ·rw[ab hb6] at h_2;cbv;obtain rfl:=Option.some.inj h_2;try dsimp only[lr,lrL,lrp,aW] at h
    obtain rfl:=Option.some.inj h;exact ARet.mk trivial hX.symm
   rw[aa hb6] at h_2;cbv;try rw[hg] at h_2
   try rw[ht] at h_2
   refine⟨⟨(k2+1,(wrap .i64 (add v2 1))),hc2_,hs2,h_2⟩,Wk.of [(0,some 0)] rfl rfl ?_ ?_,aJ hc2_⟩
   ·cbv;all_goals exact⟨⟨_,rfl,rfl⟩,⟨_,rfl,rfl⟩,trivial⟩
   cbv;all_goals exact⟨⟨_,rfl,_,rfl,rfl,rfl,rfl,trivial⟩,trivial⟩
  have hb3:lt v2 (llen (r_I64 a0_Off))=false:=fg hg ht hi2 hc2_;rw[List.drop_of_length_le (Nat.le_of_not_lt hc2_)] at h_2;rw[bK] at h_2;try rw[←hg] at h_2
  try rw[←ht] at h_2
  try dsimp only at h_2
  rw[hb3];cbv;refine⟨(),Wk.of [(0,some 0)] rfl rfl ?_ ?_,(Option.some.inj h_2).symm⟩
  ·cbv;all_goals exact⟨⟨_,rfl,rfl⟩,trivial⟩
  cbv;all_goals exact⟨⟨_,rfl,_,rfl,rfl,rfl,rfl,trivial⟩,trivial⟩
 rintro _ hy2;replace hy2:=hy2.symm;subst hy2;try dsimp only[lr,lrL,lrp,aW] at h
 cbv
 cases hb7:(le (llen (r_Leg a0_Legs)) 20)
 ·rw[aa hb7] at h;cbv;iterate 4 try(rw[hb7];cbv)
  obtain rfl:=Option.some.inj h;exact ARet.mk trivial hX.symm
 rw[ab hb7] at h;cbv;iterate 4 try(rw[hb7];cbv)
 cases hb8:(le (llen (r_I64 a0_Off)) 10)
 ·rw[aa hb8] at h;cbv;iterate 3 try(rw[hb8];cbv)
  obtain rfl:=Option.some.inj h;exact ARet.mk trivial hX.symm
 rw[ab hb8] at h;cbv;iterate 2 try(rw[hb8];cbv)
 obtain⟨x4,hx4,h⟩:=ag h;try dsimp only at h
 refine ACall.mk _ _ rfl (hF _ _ _ (fY hg ht hx4)) (.inl rfl) (nb rfl) ?_;cbv;try(rw[hb8];cbv)
 obtain rfl:=Option.some.inj h;exact ARet.mk trivial hX.symm
def Hs:J:=js [jm 4 (ki 0)] [0,1] (.seq (js [jm 5 1,jm 6 0,jb 7 .gtr .i 5 6] [0,1,7] (.cond 7 (js [jm 8 1,jm 4 8] [4] .ret) .skip)) (js [jm 9 0,jm 4 9] [4] .ret))
def Hf:List RV:=[.t 4]
def vo (g:G) (t:TE) (a0:Int) (a1:Int):Int:=
 br (g.lt a0 a1)
 (
  a1)
 (
  a0)
theorem Dp {g:G} {t:TE} {a0:Int} {a1:Int} {r:Int} (hg:g=G.real) (ht:t=TE.real) (h:vo g t a0 a1=r):Fn Tryz.prog 151 [.c (.v (.int .i64 a0)),.c (.v (.int .i64 a1))] (.c (.r (.v (.int .i64 r)))):=by
 obtain⟨X,hX⟩:=aE (.c (.r (.v (.int .i64 r))):X);rw[←hX];refine az (rvs:=Hf) (j:=Hs) Tryz.func151 rfl (by kernel_rfl) (nb rfl) (by kernel_rfl) ac ?_;intro g2 F hg2 hF;obtain rfl:g2=g:=hg2.unique.trans hg.symm;clear hg2;obtain⟨_,lt⟩:=g2;obtain⟨_⟩:=t
 unfold vo at h;try dsimp only at h
 cbv
 cases hb1:(lt a0 a1)
 rotate_left
 ·rw[ab hb1] at h;cbv;subst h;exact ARet.mk trivial hX.symm
 rw[aa hb1] at h;cbv;subst h;exact ARet.mk trivial hX.symm
def F8:J:=js [jq 6 (.mv (.k (.c (.n 1))))] [0,1,2] (js [jq 9 (.bsl 1 []),jm 7 9] [0,1,2,7] (.seq (js [jm 8 (ki 0)] [0,1,2,7,8] (.bl 0 (.seq (js [jm 10 8,jm 11 0,jq 12 (.len false 11),jb 13 .lss .i 10 12] [0,1,2,7,8,13] (.cond 13 .skip (.exit 0))) (.seq (.block 1 (js [jm 16 8,jm 17 1,jb 18 .eql .i 16 17] [0,1,2,7,8,18] (.cond 18 (.reg none [jm 19 7,jm 20 2,jc 21 151 [20,(ki 0)],jq 22 (.bsl 1 [21]),jq 23 (.app 1 8 true 19 22),jm 7 23] [0,1,2,7,8]) (.reg none [jm 24 7,jq 25 (.bsl 1 [(.k (V.i (-1)))]),jq 26 (.app 1 8 true 24 25),jm 7 26] [0,1,2,7,8])))) (.reg none [jm 14 8,jb 15 .add .i 14 (ki 1),jm 8 15] [0,1,2,7,8]))))) (js [jm 27 7,jm 6 27] [6] .ret)))
def FM:List RV:=[.t 6]
def cF (g:G) (t:TE) (a1:Int) (a2:Int):List ByteArray→Int→List Int→Option (List Int)
 |[],v1,w1=>
  some w1
 |z1::ls1,v1,w1=>
  br (g.eq v1 a1)
  (
   lP (vo g t a2 0) fun x1=>
   lP ([x1]) fun(l2:List Int)=>
   gd (((w1.length+l2.length)*8≤70368744177664))<|
   lP (w1++l2) fun(l3:List Int)=>
   cF g t a1 a2 ls1 (g.wrap .i64 (g.add v1 1)) l3)
  (
   lP ([(-1)]) fun(l4:List Int)=>
   gd (((w1.length+l4.length)*8≤70368744177664))<|
   lP (w1++l4) fun(l5:List Int)=>
   cF g t a1 a2 ls1 (g.wrap .i64 (g.add v1 1)) l5)
def jN (g:G) (t:TE) (a0:List ByteArray) (a1:Int) (a2:Int):Option (List Int):=
 lP ([]) fun(l1:List Int)=>
 cl (cF g t a1 a2 a0 0 l1) fun y1=>
 some y1
theorem wv {g:G} {t:TE} {a0:List ByteArray} {a1:Int} {a2:Int} {r:List Int} (hg:g=G.real) (ht:t=TE.real) (h:jN g t a0 a1 a2=some r):Fn Tryz.prog 114 [.c (.s 1 (t.r_S a0)),.c (.v (.int .i64 a1)),.c (.v (.int .i64 a2))] (.c (.o 1 (t.d_I64 r))):=by
 obtain⟨X,hX⟩:=aE (.c (.o 1 (t.d_I64 r)):X);rw[←hX];refine az (rvs:=FM) (j:=F8) Tryz.func114 rfl (by kernel_rfl) (nb rfl) (by kernel_rfl) ac ?_;intro g2 F hg2 hF;obtain rfl:g2=g:=hg2.unique.trans hg.symm;clear hg2;obtain⟨wrap,lt,_,eq,_,_,_,_,_,_,_,_,_,add,_,_,_,_,_,_,_,llen,_,_,dlen⟩:=g2;obtain⟨_,_,_,_,_,_,_,d_I64,_,_,_,_,r_S⟩:=t
 unfold jN at h;try dsimp only at h
 cbv;obtain⟨l1,hl1,h⟩:=ag h;try dsimp only at h
 refine ANew.mk (d_I64 l1) (dlen (d_I64 l1)) (by rw[←hl1];exact d6 hg ht []) (by rw[←hl1];exact dm hg ht []) ?_;cbv;obtain⟨o1,ho1,h⟩:=ae h;try dsimp only at h
 try rw[hg] at ho1
 try rw[ht] at ho1
 refine ABL.mk {p:Nat×Int×List Int//p.1≤a0.length∧p.2.1=((p.1:Nat):Int)∧cF G.real TE.real a1 a2 (List.drop p.1 a0) p.2.1 p.2.2=some o1} (fun⟨⟨k1,v1,w1⟩,_⟩=>({sl:=[(0,.c (.r (.s 1 (r_S a0)))),(1,.c (.r (.v (.int .i64 a1)))),(2,.c (.r (.v (.int .i64 a2)))),(7,.c (.f 0 1 0 (dlen (d_I64 w1)))),(8,.c (.r (.v (.int .i64 v1))))],tab:=[(0,some (.arr 1 (d_I64 w1)))]}:St)) 1 (fun p=>a0.length-p.1.1) ⟨(0,0,l1),Nat.zero_le _,rfl,ho1⟩ (List Int) (fun y1=>({sl:=[(7,.c (.f 0 1 0 (dlen (d_I64 y1))))],tab:=[(0,some (.arr 1 (d_I64 y1)))]}:St)) 1 (fun y=>o1=y) ?_ ?_ ?_
 ·refine Wk.of [(0,some 16)] rfl rfl ?_ ?_
  ·cbv;all_goals exact⟨⟨_,rfl,rfl⟩,⟨_,rfl,rfl⟩,⟨_,rfl,rfl⟩,⟨_,rfl,rfl⟩,⟨_,rfl,rfl⟩,trivial⟩
  cbv;all_goals exact⟨⟨_,rfl,rfl⟩,trivial⟩
 ·rintro⟨⟨k1,v1,w1⟩,hk1,hi1,h_1⟩ hq1;have hm1:=(hq1.1 0 _ _ rfl);try dsimp only at hk1 hi1 h_1
  clear hq1;cbv
  by_cases hc1_:k1<a0.length
  ·have hb1:lt v1 (llen (r_S a0))=true:=iC hg ht hi1 hc1_;have hs1:=m9 hg ht hi1 hc1_ hm1;obtain⟨z1,hz1⟩:=aD hc1_;rw[aw hz1] at h_1;rw[cF] at h_1;try rw[←hg] at h_1
   try rw[←ht] at h_1
   try dsimp only at h_1
   rw[hb1];cbv
   cases hb2:(eq v1 a1)
   ·rw[aa hb2] at h_1;cbv;obtain⟨l4,hl4,h_1⟩:=ag h_1;try dsimp only at h_1
    refine ANew.mk (d_I64 l4) (dlen (d_I64 l4)) (by rw[←hl4];exact d6 hg ht [(-1)]) (by rw[←hl4];exact dm hg ht [(-1)]) ?_;cbv;obtain⟨hc2,h_1⟩:=aj h_1;refine AStep.mk ⟨⟨rfl,(ak hg ht _)⟩,(gG hg ht (ak hg ht _) rfl hc2)⟩ ?_;cbv;obtain⟨l5,hl5,h_1⟩:=ag h_1;try dsimp only at h_1
    refine ANew.mk (d_I64 l5) (dlen (d_I64 l5)) (by rw[←hl5];exact lz hg ht (ak hg ht _) rfl) (by rw[←hl5];exact jM hg ht (ak hg ht _) rfl) ?_;cbv;try rw[hg] at h_1
    try rw[ht] at h_1
    refine⟨⟨(k1+1,(wrap .i64 (add v1 1)),l5),hc1_,hs1,h_1⟩,Wk.of [(0,some 145)] rfl rfl ?_ ?_,aJ hc1_⟩
    ·cbv;all_goals exact⟨⟨_,rfl,rfl⟩,⟨_,rfl,rfl⟩,⟨_,rfl,rfl⟩,⟨_,rfl,rfl⟩,⟨_,rfl,rfl⟩,trivial⟩
    cbv;all_goals exact⟨⟨_,rfl,rfl⟩,trivial⟩
   rw[ab hb2] at h_1;cbv;obtain⟨x1,hx1,h_1⟩:=ag h_1;try dsimp only at h_1
   refine ACall.mk _ _ rfl (hF _ _ _ (Dp hg ht hx1)) (.inl rfl) (nb rfl) ?_;cbv;obtain⟨l2,hl2,h_1⟩:=ag h_1;try dsimp only at h_1
   refine ANew.mk (d_I64 l2) (dlen (d_I64 l2)) (by rw[←hl2];exact d6 hg ht [x1]) (by rw[←hl2];exact dm hg ht [x1]) ?_;cbv;obtain⟨hc1,h_1⟩:=aj h_1;refine AStep.mk ⟨⟨rfl,(ak hg ht _)⟩,(gG hg ht (ak hg ht _) rfl hc1)⟩ ?_;cbv;obtain⟨l3,hl3,h_1⟩:=ag h_1;try dsimp only at h_1
   refine ANew.mk (d_I64 l3) (dlen (d_I64 l3)) (by rw[←hl3];exact lz hg ht (ak hg ht _) rfl) (by rw[←hl3];exact jM hg ht (ak hg ht _) rfl) ?_;cbv;try rw[hg] at h_1
   try rw[ht] at h_1
   refine⟨⟨(k1+1,(wrap .i64 (add v1 1)),l3),hc1_,hs1,h_1⟩,Wk.of [(0,some 177)] rfl rfl ?_ ?_,aJ hc1_⟩
   ·cbv;all_goals exact⟨⟨_,rfl,rfl⟩,⟨_,rfl,rfl⟩,⟨_,rfl,rfl⟩,⟨_,rfl,rfl⟩,⟨_,rfl,rfl⟩,trivial⟩
   cbv;all_goals exact⟨⟨_,rfl,rfl⟩,trivial⟩
  have hb1:lt v1 (llen (r_S a0))=false:=g0 hg ht hi1 hc1_;rw[List.drop_of_length_le (Nat.le_of_not_lt hc1_)] at h_1;rw[cF] at h_1;try rw[←hg] at h_1
  try rw[←ht] at h_1
  try dsimp only at h_1
  rw[hb1];cbv;refine⟨w1,Wk.of [(0,some 0)] rfl rfl ?_ ?_,(Option.some.inj h_1).symm⟩
  ·cbv;all_goals exact⟨⟨_,rfl,rfl⟩,trivial⟩
  cbv;all_goals exact⟨⟨_,rfl,rfl⟩,trivial⟩
 rintro y1 hy1;replace hy1:=hy1.symm;subst hy1;try dsimp only[lr,lrL,lrp,aW] at h
 cbv;obtain rfl:=Option.some.inj h;exact ARet.mk ⟨rfl,(ak hg ht _)⟩ hX.symm
def Hz:J:=js [jq 2 (.box 0),jq 3 (.box 1),jm 4 (ki 0)] [2,3] (.seq (.reg (some [[],[0],[0,1],[],[3],[],[5],[3,4,5,6],[3,4,5,6,7],[3,4,5,6,7,8],[0,1,2,3,4,5,6,7,8,9],[0,1,2,3,4,5,6,7,8,9,10]]) [jf 5 1 3,jk 6 5,jb 7 .mul .i 6 (ki 1440),jf 8 0 2,jk 9 8,jf 10 0 3,jk 11 10,ja 12 6 9 11,jf 13 2 12,jk 14 13,jb 15 .add .i 7 14,jm 4 15] [4]) .ret)
def FL:List RV:=[.t 4]
def dY (g:G) (t:TE) (a0:Network) (a1:Trip):Option Int:=
 gd (((0:Int)≤a1.Leg))<|
 gt a0.Legs (g.nat a1.Leg) fun x1=>
 some (g.wrap .i64 (g.add (g.wrap .i64 (g.mul a1.Day 1440)) x1.Start))
theorem jZ {g:G} {t:TE} {a0:Network} {a1:Trip} {r:Int} (hg:g=G.real) (ht:t=TE.real) (h:dY g t a0 a1=some r):Fn Tryz.prog 120 [.g (Network.rs t a0),.g (Trip.rs t a1)] (.c (.r (.v (.int .i64 r)))):=by
 obtain⟨X,hX⟩:=aE (.c (.r (.v (.int .i64 r))):X);rw[←hX];refine az (rvs:=FL) (j:=Hz) Tryz.func120 rfl (by kernel_rfl) (nb rfl) (by kernel_rfl) ac ?_;intro g2 F hg2 hF;obtain rfl:g2=g:=hg2.unique.trans hg.symm;clear hg2;obtain⟨_⟩:=g2;obtain⟨_⟩:=t
 obtain⟨a0_Legs,a0_Off,a0_Change⟩:=a0;obtain⟨a1_Leg,a1_Day⟩:=a1;unfold dY at h;try dsimp only at h
 cbv;obtain⟨hc1,h⟩:=aj h;refine AStep.mk hc1 ?_;cbv;obtain⟨x1,hx1,h⟩:=aH h;obtain⟨x1_From,x1_To,x1_Start,x1_Takes,x1_Days,x1_Room⟩:=x1;try dsimp only at h
 refine AGet.mk _ (aX hg ht hx1) ?_;cbv;obtain rfl:=Option.some.inj h;exact ARet.mk trivial hX.symm
def HO:J:=js [jm 4 kf] [0,1] (.seq (js [jm 5 (ki 0)] [0,1,5] (.bl 0 (.seq (js [jm 6 5,jm 7 0,jq 8 (.len false 7),jb 9 .lss .i 6 8] [0,1,5,9] (.cond 9 .skip (.exit 0))) (.seq (.block 1 (js [jm 12 0,jm 13 5,ja 14 1 12 13,jk 15 14,jm 16 1,jb 17 .eql .i 15 16] [0,1,5,17] (.cond 17 (js [jm 4 kt] [4] .ret) .skip))) (.reg none [jm 10 5,jb 11 .add .i 10 (ki 1),jm 5 11] [0,1,5]))))) (js [jm 4 kf] [4] .ret))
def Hr:List RV:=[.t 4]
def eG (g:G) (t:TE) (a1:Int):List Int→LR Bool Unit
 |[]=>
  (LR.out ())
 |z1::ls1=>
  br (g.eq z1 a1)
  (
   (LR.ret true))
  (
   eG g t a1 ls1)
def pJ (g:G) (t:TE) (a0:List Int) (a1:Int):Bool:=
 lP (eG g t a1 a0) fun o1=>lrp o1 fun y1=>
 false
theorem zR {g:G} {t:TE} {a0:List Int} {a1:Int} {r:Bool} (hg:g=G.real) (ht:t=TE.real) (h:pJ g t a0 a1=r):Fn Tryz.prog 178 [.c (.s 1 (t.r_I64 a0)),.c (.v (.int .i64 a1))] (.c (.r (.v (.bool r)))):=by
 obtain⟨X,hX⟩:=aE (.c (.r (.v (.bool r))):X);rw[←hX];refine az (rvs:=Hr) (j:=HO) Tryz.func178 rfl (by kernel_rfl) (nb rfl) (by kernel_rfl) ac ?_;intro g2 F hg2 hF;obtain rfl:g2=g:=hg2.unique.trans hg.symm;clear hg2;obtain⟨wrap,lt,_,eq,_,_,_,_,_,_,_,_,_,add,_,_,_,_,_,_,_,llen⟩:=g2;obtain⟨_,_,_,_,_,_,r_I64⟩:=t
 unfold pJ at h;try dsimp only at h
 cbv;obtain⟨o1,ho1,h⟩:=ag h;try dsimp only at h
 try rw[hg] at ho1
 try rw[ht] at ho1
 refine ABL.mk {p:Nat×Int//p.1≤a0.length∧p.2=((p.1:Nat):Int)∧eG G.real TE.real a1 (List.drop p.1 a0)=o1} (fun⟨⟨k1,v1⟩,_⟩=>({sl:=[(0,.c (.r (.s 1 (r_I64 a0)))),(1,.c (.r (.v (.int .i64 a1)))),(5,.c (.r (.v (.int .i64 v1))))],tab:=[]}:St)) 0 (fun p=>a0.length-p.1.1) ⟨(0,0),Nat.zero_le _,rfl,ho1⟩ (Unit) (fun _=>({sl:=[],tab:=[]}:St)) 0 (fun y=>o1=LR.out y) ?_ ?_ ?_
 ·refine Wk.of [] rfl rfl ?_ ?_
  ·cbv;all_goals exact⟨⟨_,rfl,rfl⟩,⟨_,rfl,rfl⟩,⟨_,rfl,rfl⟩,trivial⟩
  cbv;all_goals exact trivial
 ·rintro⟨⟨k1,v1⟩,hk1,hi1,h_1⟩ hq1;have hm1:=(hq1.1 0 _ _ rfl);try dsimp only at hk1 hi1 h_1
  clear hq1;cbv
  by_cases hc1_:k1<a0.length
  ·have hb1:lt v1 (llen (r_I64 a0))=true:=fZ hg ht hi1 hc1_;have hs1:=jQ hg ht hi1 hc1_ hm1;obtain⟨z1,hz1⟩:=aD hc1_;rw[aw hz1] at h_1;rw[eG] at h_1;try rw[←hg] at h_1
   try rw[←ht] at h_1
   try dsimp only at h_1
   rw[hb1];cbv;refine AStep.mk (fB hi1) ?_;cbv;refine AGet.mk _ (gF hg ht hi1 hz1) ?_;cbv
   cases hb2:(eq z1 a1)
   rotate_left
   ·rw[ab hb2] at h_1;cbv;subst h_1;try dsimp only[lr,lrL,lrp,aW] at h
    subst h;exact ARet.mk trivial hX.symm
   rw[aa hb2] at h_1;cbv;try rw[hg] at h_1
   try rw[ht] at h_1
   refine⟨⟨(k1+1,(wrap .i64 (add v1 1))),hc1_,hs1,h_1⟩,Wk.of [] rfl rfl ?_ ?_,aJ hc1_⟩
   ·cbv;all_goals exact⟨⟨_,rfl,rfl⟩,⟨_,rfl,rfl⟩,⟨_,rfl,rfl⟩,trivial⟩
   cbv;all_goals exact trivial
  have hb1:lt v1 (llen (r_I64 a0))=false:=fg hg ht hi1 hc1_;rw[List.drop_of_length_le (Nat.le_of_not_lt hc1_)] at h_1;rw[eG] at h_1;try rw[←hg] at h_1
  try rw[←ht] at h_1
  try dsimp only at h_1
  rw[hb1];cbv;refine⟨(),Wk.of [] rfl rfl ?_ ?_,h_1.symm⟩
  ·cbv;all_goals exact trivial
  cbv;all_goals exact trivial
 rintro _ hy1;replace hy1:=hy1.symm;subst hy1;try dsimp only[lr,lrL,lrp,aW] at h
 cbv;subst h;exact ARet.mk trivial hX.symm
def FY:J:=js [jq 3 (.box 0),jm 6 kf] [1,2,3] (js [jm 7 1,jf 8 0 3,jk 9 8,jq 10 (.len false 9),jb 11 .sub .i 10 (ki 1),jc 12 141 [7,(ki 0),11],jm 13 12,ju 14 13 (.mv 2),ju 15 13 (.call 141 true [14,(ki 0),(ki 60)]),jq 16 (.pick 13 15 kf),jm 17 16,ju 18 17 (.fa 0 3),ju 19 17 (.ld false 1 18),ju 20 17 (.mv 1),ju 21 17 (.ia 6 19 20),ju 22 17 (.fa 4 21),ju 23 17 (.ld false 1 22),ju 24 17 (.mv 2),ju 25 17 (.bin .rem .i 24 (ki 7)),ju 26 17 (.bin .shr .i 23 25),ju 27 17 (.bin .and .i 26 (ki 1)),ju 28 17 (.bin .eql .i 27 (ki 1)),jq 29 (.pick 17 28 kf),jm 30 29,ju 31 30 (.fa 1 3),ju 32 30 (.ld false 1 31),ju 33 30 (.mv 2),ju 34 30 (.call 178 true [32,33]),ju 35 30 (.not 34),jq 36 (.pick 30 35 kf),jm 6 36] [6] .ret)
def GY:List RV:=[.t 6]
def g9 (g:G) (t:TE) (a0:Network) (a1:Int) (a2:Int):Option Bool:=
 lP (gC g t a1 0 (g.wrap .i64 (g.sub (g.llen (t.r_Leg a0.Legs)) 1))) fun x1=>
 br x1
 (
  lP (gC g t a2 0 60) fun x2=>
  br x2
  (
   gd (((0:Int)≤a1))<|
   gt a0.Legs (g.nat a1) fun x3=>
   gd (((0:Int)≤(g.rem a2 7)))<|
   br (g.eq (g.band .i64 (g.shr .i64 x3.Days (g.rem a2 7)) 1) 1)
   (
    lP (pJ g t a0.Off a2) fun x4=>
    some (!x4))
   (
    some false))
  (
   some false))
 (
  some false)
theorem rG {g:G} {t:TE} {a0:Network} {a1:Int} {a2:Int} {r:Bool} (hg:g=G.real) (ht:t=TE.real) (h:g9 g t a0 a1 a2=some r):Fn Tryz.prog 153 [.g (Network.rs t a0),.c (.v (.int .i64 a1)),.c (.v (.int .i64 a2))] (.c (.r (.v (.bool r)))):=by
 obtain⟨X,hX⟩:=aE (.c (.r (.v (.bool r))):X);rw[←hX];refine az (rvs:=GY) (j:=FY) Tryz.func153 rfl (by kernel_rfl) (nb rfl) (by kernel_rfl) ac ?_;intro g2 F hg2 hF;obtain rfl:g2=g:=hg2.unique.trans hg.symm;clear hg2;obtain⟨_,_,_,eq,_,rem,band,_,_,_,shr⟩:=g2;obtain⟨_⟩:=t
 obtain⟨a0_Legs,a0_Off,a0_Change⟩:=a0;unfold g9 at h;try dsimp only at h
 cbv;obtain⟨x1,hx1,h⟩:=ag h;try dsimp only at h
 refine ACall.mk _ _ rfl (hF _ _ _ (fY hg ht hx1)) (.inl rfl) (nb rfl) ?_;cbv
 cases hb1:x1
 ·rw[aa hb1] at h;cbv;iterate 2 try(rw[hb1];cbv)
  obtain rfl:=Option.some.inj h;exact ARet.mk trivial hX.symm
 rw[ab hb1] at h;cbv;try(rw[hb1];cbv)
 obtain⟨x2,hx2,h⟩:=ag h;try dsimp only at h
 refine ACall.mk _ _ rfl (hF _ _ _ (fY hg ht hx2)) (.inl rfl) (nb rfl) ?_;cbv;try(rw[hb1];cbv)
 cases hb2:x2
 ·rw[aa hb2] at h;cbv;iterate 11 try(rw[hb2];cbv)
  obtain rfl:=Option.some.inj h;exact ARet.mk trivial hX.symm
 rw[ab hb2] at h;cbv;iterate 3 try(rw[hb2];cbv)
 obtain⟨hc1,h⟩:=aj h;refine AStep.mk hc1 ?_;cbv;obtain⟨x3,hx3,h⟩:=aH h;obtain⟨x3_From,x3_To,x3_Start,x3_Takes,x3_Days,x3_Room⟩:=x3;try dsimp only at h
 refine AGet.mk _ (aX hg ht hx3) ?_;cbv;iterate 4 try(rw[hb2];cbv)
 refine AStep.mk (by decide) ?_;cbv;try(rw[hb2];cbv)
 obtain⟨hc2,h⟩:=aj h;refine AStep.mk hc2 ?_;cbv;iterate 3 try(rw[hb2];cbv)
 cases hb3:(eq (band .i64 (shr .i64 x3_Days (rem a2 7)) 1) 1)
 ·rw[aa hb3] at h;cbv;iterate 5 try(rw[hb3];cbv)
  obtain rfl:=Option.some.inj h;exact ARet.mk trivial hX.symm
 rw[ab hb3] at h;cbv;iterate 3 try(rw[hb3];cbv)
 obtain⟨x4,hx4,h⟩:=ag h;try dsimp only at h
 refine ACall.mk _ _ rfl (hF _ _ _ (zR hg ht hx4)) (.inl rfl) (nb rfl) ?_;cbv;iterate 2 try(rw[hb3];cbv)
 obtain rfl:=Option.some.inj h;exact ARet.mk trivial hX.symm
def Hq:J:=js [jq 3 (.box 0),jm 6 (ki 0)] [1,2,3] (.seq (js [jm 7 (ki 0)] [1,2,3,7] (.bl 0 (.seq (js [jm 8 7,jb 9 .leq .i 8 (ki 60)] [1,2,3,7,9] (.cond 9 .skip (.exit 0))) (.seq (.block 1 (js [jl 12 3 3,jm 13 1,jm 14 7,jc 15 153 [12,13,14],jm 16 15,ju 17 16 (.ld true 3 3),ju 18 16 (.mv 1),ju 19 16 (.mv 7),ju 20 16 (.bld [.r (.v (.int .i64 0)),.r (.v (.int .i64 0))] [(0,1,18),(1,1,19)]),ju 21 16 (.call 120 true [17,20]),ju 22 16 (.mv 2),ju 23 16 (.bin .geq .i 21 22),jq 24 (.pick 16 23 kf)] [1,2,3,7,24] (.cond 24 (js [jm 25 7,jm 6 25] [6] .ret) .skip))) (.reg none [jm 10 7,jb 11 .add .i 10 (ki 1),jm 7 11] [1,2,3,7]))))) (js [jq 6 (.mv (.k (V.i (-1))))] [6] .ret))
def Ha:List RV:=[.t 6]
def dt (g:G) (t:TE) (a0:Network) (a1:Int) (a2:Int):Nat→Int→Option (LR Int Unit)
 |0,v1=>
  some (LR.out ())
 |n1+1,v1=>
  cl (g9 g t a0 a1 v1) fun x1=>
  br x1
  (
   cl (dY g t a0 (Trip.mk a1 v1)) fun x2=>
   br (g.le a2 x2)
   (
    some (LR.ret v1))
   (
    dt g t a0 a1 a2 n1 (g.wrap .i64 (g.add v1 1))))
  (
   dt g t a0 a1 a2 n1 (g.wrap .i64 (g.add v1 1)))
def iv (g:G) (t:TE) (a0:Network) (a1:Int) (a2:Int):Option Int:=
 cl (dt g t a0 a1 a2 (df 0 60) 0) fun o1=>lr o1 fun y1=>
 some (-1)
theorem qR {g:G} {t:TE} {a0:Network} {a1:Int} {a2:Int} {r:Int} (hg:g=G.real) (ht:t=TE.real) (h:iv g t a0 a1 a2=some r):Fn Tryz.prog 116 [.g (Network.rs t a0),.c (.v (.int .i64 a1)),.c (.v (.int .i64 a2))] (.c (.r (.v (.int .i64 r)))):=by
 obtain⟨X,hX⟩:=aE (.c (.r (.v (.int .i64 r))):X);rw[←hX];refine az (rvs:=Ha) (j:=Hq) Tryz.func116 rfl (by kernel_rfl) (nb rfl) (by kernel_rfl) ac ?_;intro g2 F hg2 hF;obtain rfl:g2=g:=hg2.unique.trans hg.symm;clear hg2;obtain⟨wrap,_,le,_,_,_,_,_,_,_,_,_,_,add⟩:=g2;obtain⟨_,_,_,_,r_Leg,_,r_I64⟩:=t
 obtain⟨a0_Legs,a0_Off,a0_Change⟩:=a0;unfold iv at h;try dsimp only at h
 cbv;obtain⟨o1,ho1,h⟩:=ae h;try dsimp only at h
 try rw[hg] at ho1
 try rw[ht] at ho1
 refine ABL.mk {p:Nat×Int//p.1=df p.2 60∧0≤p.2∧dt G.real TE.real (Network.mk a0_Legs a0_Off a0_Change) a1 a2 p.1 p.2=some o1} (fun⟨⟨n1,v1⟩,_⟩=>({sl:=[(1,.c (.r (.v (.int .i64 a1)))),(2,.c (.r (.v (.int .i64 a2)))),(3,.c (.p 0 3 0 0)),(7,.c (.r (.v (.int .i64 v1))))],tab:=[(0,some (.foc 3 [] [.r (.s 6 (r_Leg a0_Legs)),.r (.s 1 (r_I64 a0_Off)),.r (.v (.int .i64 a0_Change))] []))]}:St)) 1 (fun p=>p.1.1) ⟨(df 0 60,0),rfl,Int.le_refl _,ho1⟩ (Unit) (fun _=>({sl:=[],tab:=[]}:St)) 0 (fun y=>o1=LR.out y) ?_ ?_ ?_
 ·refine Wk.of [(0,some 0)] rfl rfl ?_ ?_
  ·cbv;all_goals exact⟨⟨_,rfl,rfl⟩,⟨_,rfl,rfl⟩,⟨_,rfl,rfl⟩,⟨_,rfl,rfl⟩,trivial⟩
  cbv;all_goals exact⟨⟨_,rfl,_,rfl,rfl,rfl,rfl,trivial⟩,trivial⟩
 ·rintro⟨⟨n1,v1⟩,hn1,hi1,h_1⟩ hq1;try dsimp only at hn1 hi1 h_1
  clear hq1;cbv;rcases n1 with _|n1
  ·have hb1:le v1 60=false:=jR hg hn1;rw[dt] at h_1;try rw[←hg] at h_1
   try rw[←ht] at h_1
   try dsimp only at h_1
   rw[hb1];cbv;refine⟨(),Wk.of [] rfl rfl ?_ ?_,(Option.some.inj h_1).symm⟩
   ·cbv;all_goals exact trivial
   cbv;all_goals exact trivial
  have hb1:le v1 60=true:=kL hg hn1;have hl1:=pZ hn1;have hs1:=mW hg hn1 hi1 (by decide) (by decide);rw[dt] at h_1;try rw[←hg] at h_1
  try rw[←ht] at h_1
  try dsimp only at h_1
  rw[hb1];cbv;obtain⟨x1,hx1,h_1⟩:=ae h_1;try dsimp only at h_1
  refine ACall.mk _ _ rfl (hF _ _ _ (rG hg ht hx1)) (.inl rfl) (nb rfl) ?_;cbv
  cases hb2:x1
  ·rw[aa hb2] at h_1;cbv;iterate 7 try(rw[hb2];cbv)
   try rw[hg] at h_1
   try rw[ht] at h_1
   refine⟨⟨(n1,(wrap .i64 (add v1 1))),hs1.1,hs1.2,h_1⟩,Wk.of [(0,some 0)] rfl rfl ?_ ?_,Nat.lt_succ_self _⟩
   ·cbv;all_goals exact⟨⟨_,rfl,rfl⟩,⟨_,rfl,rfl⟩,⟨_,rfl,rfl⟩,⟨_,rfl,rfl⟩,trivial⟩
   cbv;all_goals exact⟨⟨_,rfl,_,rfl,rfl,rfl,rfl,trivial⟩,trivial⟩
  rw[ab hb2] at h_1;cbv;iterate 4 try(rw[hb2];cbv)
  obtain⟨x2,hx2,h_1⟩:=ae h_1;try dsimp only at h_1
  refine ACall.mk _ _ rfl (hF _ _ _ (jZ hg ht hx2)) (.inl rfl) (nb rfl) ?_;cbv;iterate 3 try(rw[hb2];cbv)
  cases hb3:(le a2 x2)
  rotate_left
  ·rw[ab hb3] at h_1;cbv;obtain rfl:=Option.some.inj h_1;try dsimp only[lr,lrL,lrp,aW] at h
   obtain rfl:=Option.some.inj h;exact ARet.mk trivial hX.symm
  rw[aa hb3] at h_1;cbv;try rw[hg] at h_1
  try rw[ht] at h_1
  refine⟨⟨(n1,(wrap .i64 (add v1 1))),hs1.1,hs1.2,h_1⟩,Wk.of [(0,some 0)] rfl rfl ?_ ?_,Nat.lt_succ_self _⟩
  ·cbv;all_goals exact⟨⟨_,rfl,rfl⟩,⟨_,rfl,rfl⟩,⟨_,rfl,rfl⟩,⟨_,rfl,rfl⟩,trivial⟩
  cbv;all_goals exact⟨⟨_,rfl,_,rfl,rfl,rfl,rfl,trivial⟩,trivial⟩
 rintro _ hy1;replace hy1:=hy1.symm;subst hy1;try dsimp only[lr,lrL,lrp,aW] at h
 cbv;obtain rfl:=Option.some.inj h;exact ARet.mk trivial hX.symm
def Gy:J:=js [jq 3 (.box 0),jm 6 (ki 0)] [1,2,3] (.seq (js [jm 7 2] [1,3,7] (.cond 7 (js [jm 8 1,jm 6 8] [6] .ret) .skip)) (js [jm 9 1,jf 10 2 3,jk 11 10,jb 12 .add .i 9 11,jm 6 12] [6] .ret))
def FP:List RV:=[.t 6]
def fJ (g:G) (t:TE) (a0:Network) (a1:Int) (a2:Bool):Int:=
 br a2
 (
  a1)
 (
  (g.wrap .i64 (g.add a1 a0.Change)))
theorem pp {g:G} {t:TE} {a0:Network} {a1:Int} {a2:Bool} {r:Int} (hg:g=G.real) (ht:t=TE.real) (h:fJ g t a0 a1 a2=r):Fn Tryz.prog 117 [.g (Network.rs t a0),.c (.v (.int .i64 a1)),.c (.v (.bool a2))] (.c (.r (.v (.int .i64 r)))):=by
 obtain⟨X,hX⟩:=aE (.c (.r (.v (.int .i64 r))):X);rw[←hX];refine az (rvs:=FP) (j:=Gy) Tryz.func117 rfl (by kernel_rfl) (nb rfl) (by kernel_rfl) ac ?_;intro g2 F hg2 hF;obtain rfl:g2=g:=hg2.unique.trans hg.symm;clear hg2;obtain⟨_⟩:=g2;obtain⟨_⟩:=t
 obtain⟨a0_Legs,a0_Off,a0_Change⟩:=a0;unfold fJ at h;try dsimp only at h
 cbv
 cases hb1:a2
 rotate_left
 ·rw[ab hb1] at h;cbv;subst h;exact ARet.mk trivial hX.symm
 rw[aa hb1] at h;cbv;subst h;exact ARet.mk trivial hX.symm
def GO:J:=js [jq 2 (.box 0),jq 3 (.box 1),jm 4 (ki 0)] [2,3] (.seq (.reg (some [[],[],[0,1],[],[3],[],[5],[3,4,5,6],[3,4,5,6,7],[3,4,5,6,7,8],[0,1,2,3,4,5,6,7,8,9],[0,1,2,3,4,5,6,7,8,9,10]]) [jl 5 3 2,jl 6 2 3,jc 7 120 [5,6],jf 8 0 2,jk 9 8,jf 10 0 3,jk 11 10,ja 12 6 9 11,jf 13 3 12,jk 14 13,jb 15 .add .i 7 14,jm 4 15] [4]) .ret)
def Gn:List RV:=[.t 4]
def gU (g:G) (t:TE) (a0:Network) (a1:Trip):Option Int:=
 cl (dY g t a0 a1) fun x1=>
 gd (((0:Int)≤a1.Leg))<|
 gt a0.Legs (g.nat a1.Leg) fun x2=>
 some (g.wrap .i64 (g.add x1 x2.Takes))
theorem mA {g:G} {t:TE} {a0:Network} {a1:Trip} {r:Int} (hg:g=G.real) (ht:t=TE.real) (h:gU g t a0 a1=some r):Fn Tryz.prog 118 [.g (Network.rs t a0),.g (Trip.rs t a1)] (.c (.r (.v (.int .i64 r)))):=by
 obtain⟨X,hX⟩:=aE (.c (.r (.v (.int .i64 r))):X);rw[←hX];refine az (rvs:=Gn) (j:=GO) Tryz.func118 rfl (by kernel_rfl) (nb rfl) (by kernel_rfl) ac ?_;intro g2 F hg2 hF;obtain rfl:g2=g:=hg2.unique.trans hg.symm;clear hg2;obtain⟨_⟩:=g2;obtain⟨_⟩:=t
 obtain⟨a0_Legs,a0_Off,a0_Change⟩:=a0;obtain⟨a1_Leg,a1_Day⟩:=a1;unfold gU at h;try dsimp only at h
 cbv;obtain⟨x1,hx1,h⟩:=ae h;try dsimp only at h
 refine ACall.mk _ _ rfl (hF _ _ _ (jZ hg ht hx1)) (.inl rfl) (nb rfl) ?_;cbv;obtain⟨hc1,h⟩:=aj h;refine AStep.mk hc1 ?_;cbv;obtain⟨x2,hx2,h⟩:=aH h;obtain⟨x2_From,x2_To,x2_Start,x2_Takes,x2_Days,x2_Room⟩:=x2;try dsimp only at h
 refine AGet.mk _ (aX hg ht hx2) ?_;cbv;obtain rfl:=Option.some.inj h;exact ARet.mk trivial hX.symm
def Hw:J:=js [jq 2 (.mv (.k (.c (.n 1))))] [0] (js [jq 3 (.bsl 1 []),jm 4 0,jq 5 (.app 1 8 false 3 4),jm 2 5] [2] .ret)
def Hb:List RV:=[.t 2]
def nB (g:G) (t:TE) (a0:List Int):Option (List Int):=
 lP ([]) fun(l1:List Int)=>
 gd (((l1.length+a0.length)*8≤70368744177664))<|
 lP (l1++a0) fun(l2:List Int)=>
 some l2
theorem xQ {g:G} {t:TE} {a0:List Int} {r:List Int} (hg:g=G.real) (ht:t=TE.real) (h:nB g t a0=some r):Fn Tryz.prog 152 [.c (.s 1 (t.r_I64 a0))] (.c (.o 1 (t.d_I64 r))):=by
 obtain⟨X,hX⟩:=aE (.c (.o 1 (t.d_I64 r)):X);rw[←hX];refine az (rvs:=Hb) (j:=Hw) Tryz.func152 rfl (by kernel_rfl) (nb rfl) (by kernel_rfl) ac ?_;intro g2 F hg2 hF;obtain rfl:g2=g:=hg2.unique.trans hg.symm;clear hg2;obtain⟨_,_,_,_,_,_,_,_,_,_,_,_,_,_,_,_,_,_,_,_,_,_,_,_,dlen⟩:=g2;obtain⟨_,_,_,_,_,_,_,d_I64⟩:=t
 unfold nB at h;try dsimp only at h
 cbv;obtain⟨l1,hl1,h⟩:=ag h;try dsimp only at h
 refine ANew.mk (d_I64 l1) (dlen (d_I64 l1)) (by rw[←hl1];exact d6 hg ht []) (by rw[←hl1];exact dm hg ht []) ?_;cbv;obtain⟨hc1,h⟩:=aj h;refine AStep.mk (gG hg ht (ak hg ht _) (xC hg ht _) hc1) ?_;cbv;obtain⟨l2,hl2,h⟩:=ag h;try dsimp only at h
 refine ANew.mk (d_I64 l2) (dlen (d_I64 l2)) (by rw[←hl2];exact lz hg ht (ak hg ht _) (xC hg ht _)) (by rw[←hl2];exact jM hg ht (ak hg ht _) (xC hg ht _)) ?_;cbv;obtain rfl:=Option.some.inj h;exact ARet.mk ⟨rfl,(ak hg ht _)⟩ hX.symm
def GJ:J:=js [jq 4 (.box 0),jq 8 (.mv (.k (.c (.n 1))))] [1,2,3,4] (js [jm 15 2,jc 16 152 [15],jm 9 16] [1,2,3,4,9] (.seq (js [jm 10 (ki 0)] [1,2,3,4,9,10] (.bl 0 (.seq (js [jm 17 10,jf 18 0 4,jk 19 18,jq 20 (.len false 19),jb 21 .lss .i 17 20] [1,2,3,4,9,10,21] (.cond 21 .skip (.exit 0))) (.seq (.block 1 (js [jm 24 1,jf 25 0 4,jk 26 25,jm 27 10,ja 28 6 26 27,jf 29 0 28,jk 30 29,jc 31 59 [24,30],jm 11 31] [1,2,3,4,9,10,11] (js [jm 32 1,jf 33 0 4,jk 34 33,jm 35 10,ja 36 6 34 35,jf 37 1 36,jk 38 37,jc 39 59 [32,38],jm 12 39] [1,2,3,4,9,10,11,12] (.seq (js [jm 40 2,jm 41 11,ja 42 1 40 41,jk 43 42,jb 44 .lss .i 43 (ki 0)] [1,2,3,4,9,10,11,12,44] (.cond 44 (.exit 1) .skip)) (.seq (.reg (some [[],[],[],[],[],[3,4],[3,4,5],[],[],[7,8],[2,3,4,5,6,7,8,9],[0,1,2,3,4,5,6,7,8,9,10],[0,1,2,3,4,5,6,7,8,9,10,11]]) [jl 45 3 4,jm 46 10,jl 47 3 4,jm 48 2,jm 49 11,ja 50 1 48 49,jk 51 50,jm 52 11,jm 53 3,jb 54 .eql .i 52 53,jc 55 117 [47,51,54],jc 56 116 [45,46,55],jm 13 56] [1,2,3,4,9,10,12,13]) (.seq (js [jm 57 13,jb 58 .lss .i 57 (ki 0)] [1,2,3,4,9,10,12,13,58] (.cond 58 (.exit 1) .skip)) (js [jl 59 3 4,jm 60 10,jm 61 13,jq 62 (.bld [.r (.v (.int .i64 0)),.r (.v (.int .i64 0))] [(0,1,60),(1,1,61)]),jc 63 118 [59,62],jm 14 63] [1,2,3,4,9,10,12,14] (js [jm 64 9,jm 65 12,ja 66 1 64 65,jk 67 66,jb 68 .lss .i 67 (ki 0),jm 69 68,jv 70 69 (.mv 14),jv 71 69 (.mv 9),jv 72 69 (.mv 12),jv 73 69 (.ia 1 71 72),jv 74 69 (.ld false 1 73),jv 75 69 (.bin .lss .i 70 74),jq 76 (.pick 69 kt 75)] [1,2,3,4,9,10,12,14,76] (.cond 76 (.reg none [jm 77 9,jm 78 12,jm 79 14,ja 80 1 77 78,jp (.st 1 80 79)] [1,2,3,4,9,10]) .skip))))))))) (.reg none [jm 22 10,jb 23 .add .i 22 (ki 1),jm 10 23] [1,2,3,4,9,10]))))) (js [jm 81 9,jm 8 81] [8] .ret)))
def HF:List RV:=[.t 8]
def bv (g:G) (t:TE) (a0:Network) (a1:List ByteArray) (a2:List Int) (a3:Int):List Leg→Int→List Int→Option (List Int)
 |[],v1,w1=>
  some w1
 |z1::ls1,v1,w1=>
  lP (c9 g t a1 z1.From) fun x2=>
  lP (c9 g t a1 z1.To) fun x3=>
  gd (((0:Int)≤x2))<|
  gt a2 (g.nat x2) fun x4=>
  br (g.lt x4 0)
  (
   bv g t a0 a1 a2 a3 ls1 (g.wrap .i64 (g.add v1 1)) w1)
  (
   gd (((0:Int)≤x2))<|
   lP (fJ g t a0 x4 (g.eq x2 a3)) fun x5=>
   cl (iv g t a0 v1 x5) fun x6=>
   br (g.lt x6 0)
   (
    bv g t a0 a1 a2 a3 ls1 (g.wrap .i64 (g.add v1 1)) w1)
   (
    cl (gU g t a0 (Trip.mk v1 x6)) fun x7=>
    gd (((0:Int)≤x3∧x3<(((g.dlen (t.d_I64 w1)):Nat):Int)))<|
    gt w1 (g.nat x3) fun x8=>
    br (g.lt x8 0)
    (
     gd (((0:Int)≤x3∧x3<(((g.dlen (t.d_I64 w1)):Nat):Int)))<|
     lP (List.set w1 (g.nat x3) x7) fun(l1:List Int)=>
     bv g t a0 a1 a2 a3 ls1 (g.wrap .i64 (g.add v1 1)) l1)
    (
     gd (((0:Int)≤x3∧x3<(((g.dlen (t.d_I64 w1)):Nat):Int)))<|
     br (g.lt x7 x8)
     (
      gd (((0:Int)≤x3∧x3<(((g.dlen (t.d_I64 w1)):Nat):Int)))<|
      lP (List.set w1 (g.nat x3) x7) fun(l2:List Int)=>
      bv g t a0 a1 a2 a3 ls1 (g.wrap .i64 (g.add v1 1)) l2)
     (
      bv g t a0 a1 a2 a3 ls1 (g.wrap .i64 (g.add v1 1)) w1))))
def lu (g:G) (t:TE) (a0:Network) (a1:List ByteArray) (a2:List Int) (a3:Int):Option (List Int):=
 cl (nB g t a2) fun x1=>
 cl (bv g t a0 a1 a2 a3 a0.Legs 0 x1) fun y1=>
 some y1
theorem wq {g:G} {t:TE} {a0:Network} {a1:List ByteArray} {a2:List Int} {a3:Int} {r:List Int} (hg:g=G.real) (ht:t=TE.real) (h:lu g t a0 a1 a2 a3=some r):Fn Tryz.prog 115 [.g (Network.rs t a0),.c (.s 1 (t.r_S a1)),.c (.s 1 (t.r_I64 a2)),.c (.v (.int .i64 a3))] (.c (.o 1 (t.d_I64 r))):=by
 obtain⟨X,hX⟩:=aE (.c (.o 1 (t.d_I64 r)):X);rw[←hX];refine az (rvs:=HF) (j:=GJ) Tryz.func115 rfl (by kernel_rfl) (nb rfl) (by kernel_rfl) ac ?_;intro g2 F hg2 hF;obtain rfl:g2=g:=hg2.unique.trans hg.symm;clear hg2;obtain⟨wrap,lt,_,_,_,_,_,_,_,_,_,_,_,add,_,_,_,_,_,_,_,llen,_,_,dlen⟩:=g2;obtain⟨_,_,_,_,r_Leg,_,r_I64,d_I64,_,_,_,_,r_S⟩:=t
 obtain⟨a0_Legs,a0_Off,a0_Change⟩:=a0;unfold lu at h;try dsimp only at h
 cbv;obtain⟨x1,hx1,h⟩:=ae h;try dsimp only at h
 refine ACall.mk _ _ rfl (hF _ _ _ (xQ hg ht hx1)) (.inl rfl) (nb rfl) ?_;cbv;obtain⟨o1,ho1,h⟩:=ae h;try dsimp only at h
 try rw[hg] at ho1
 try rw[ht] at ho1
 refine ABL.mk {p:Nat×Int×List Int//p.1≤a0_Legs.length∧p.2.1=((p.1:Nat):Int)∧bv G.real TE.real (Network.mk a0_Legs a0_Off a0_Change) a1 a2 a3 (List.drop p.1 a0_Legs) p.2.1 p.2.2=some o1} (fun⟨⟨k1,v1,w1⟩,_⟩=>({sl:=[(1,.c (.r (.s 1 (r_S a1)))),(2,.c (.r (.s 1 (r_I64 a2)))),(3,.c (.r (.v (.int .i64 a3)))),(4,.c (.p 0 3 0 0)),(9,.c (.f 1 1 0 (dlen (d_I64 w1)))),(10,.c (.r (.v (.int .i64 v1))))],tab:=[(0,some (.foc 3 [] [.r (.s 6 (r_Leg a0_Legs)),.r (.s 1 (r_I64 a0_Off)),.r (.v (.int .i64 a0_Change))] [])),(1,some (.arr 1 (d_I64 w1)))]}:St)) 2 (fun p=>a0_Legs.length-p.1.1) ⟨(0,0,x1),Nat.zero_le _,rfl,ho1⟩ (List Int) (fun y1=>({sl:=[(9,.c (.f 0 1 0 (dlen (d_I64 y1))))],tab:=[(0,some (.arr 1 (d_I64 y1)))]}:St)) 1 (fun y=>o1=y) ?_ ?_ ?_
 ·refine Wk.of [(0,some 0),(1,some 48)] rfl rfl ?_ ?_
  ·cbv;all_goals exact⟨⟨_,rfl,rfl⟩,⟨_,rfl,rfl⟩,⟨_,rfl,rfl⟩,⟨_,rfl,rfl⟩,⟨_,rfl,rfl⟩,⟨_,rfl,rfl⟩,trivial⟩
  cbv;all_goals exact⟨⟨_,rfl,_,rfl,rfl,rfl,rfl,trivial⟩,⟨_,rfl,rfl⟩,trivial⟩
 ·rintro⟨⟨k1,v1,w1⟩,hk1,hi1,h_1⟩ hq1;have hm1:=(hq1.2.2.1 0 _ _ _ _ 0 _ _ rfl rfl);try dsimp only at hk1 hi1 h_1
  clear hq1;cbv
  by_cases hc1_:k1<a0_Legs.length
  ·have hb1:lt v1 (llen (r_Leg a0_Legs))=true:=dg hg ht hi1 hc1_;have hs1:=fG hg ht hi1 hc1_ hm1;obtain⟨z1,hz1⟩:=aD hc1_;rw[aw hz1] at h_1;rw[bv] at h_1;obtain⟨z1_From,z1_To,z1_Start,z1_Takes,z1_Days,z1_Room⟩:=z1;try rw[←hg] at h_1
   try rw[←ht] at h_1
   try dsimp only at h_1
   rw[hb1];cbv;refine AStep.mk (fB hi1) ?_;cbv;refine AGet.mk _ (dV hg ht hi1 hz1) ?_;cbv;obtain⟨x2,hx2,h_1⟩:=ag h_1;try dsimp only at h_1
   refine ACall.mk _ _ rfl (hF _ _ _ (dN hg ht hx2)) (.inl rfl) (nb rfl) ?_;cbv;refine AStep.mk (fB hi1) ?_;cbv;refine AGet.mk _ (dV hg ht hi1 hz1) ?_;cbv;obtain⟨x3,hx3,h_1⟩:=ag h_1;try dsimp only at h_1
   refine ACall.mk _ _ rfl (hF _ _ _ (dN hg ht hx3)) (.inl rfl) (nb rfl) ?_;cbv;obtain⟨hc1,h_1⟩:=aj h_1;refine AStep.mk hc1 ?_;cbv;obtain⟨x4,hx4,h_1⟩:=aH h_1;try dsimp only at h_1
   refine AGet.mk _ (ec hg ht hx4) ?_;cbv
   cases hb2:(lt x4 0)
   rotate_left
   ·rw[ab hb2] at h_1;cbv;try rw[hg] at h_1
    try rw[ht] at h_1
    refine⟨⟨(k1+1,(wrap .i64 (add v1 1)),w1),hc1_,hs1,h_1⟩,Wk.of [(0,some 0),(1,some 1)] rfl rfl ?_ ?_,aJ hc1_⟩
    ·cbv;all_goals exact⟨⟨_,rfl,rfl⟩,⟨_,rfl,rfl⟩,⟨_,rfl,rfl⟩,⟨_,rfl,rfl⟩,⟨_,rfl,rfl⟩,⟨_,rfl,rfl⟩,trivial⟩
    cbv;all_goals exact⟨⟨_,rfl,_,rfl,rfl,rfl,rfl,trivial⟩,⟨_,rfl,rfl⟩,trivial⟩
   rw[aa hb2] at h_1;cbv;obtain⟨hc2,h_1⟩:=aj h_1;refine AStep.mk hc2 ?_;cbv;refine AGet.mk _ (ec hg ht hx4) ?_;cbv;obtain⟨x5,hx5,h_1⟩:=ag h_1;try dsimp only at h_1
   refine ACall.mk _ _ rfl (hF _ _ _ (pp hg ht hx5)) (.inl rfl) (nb rfl) ?_;cbv;obtain⟨x6,hx6,h_1⟩:=ae h_1;try dsimp only at h_1
   refine ACall.mk _ _ rfl (hF _ _ _ (qR hg ht hx6)) (.inl rfl) (nb rfl) ?_;cbv
   cases hb3:(lt x6 0)
   rotate_left
   ·rw[ab hb3] at h_1;cbv;try rw[hg] at h_1
    try rw[ht] at h_1
    refine⟨⟨(k1+1,(wrap .i64 (add v1 1)),w1),hc1_,hs1,h_1⟩,Wk.of [(0,some 0),(1,some 1)] rfl rfl ?_ ?_,aJ hc1_⟩
    ·cbv;all_goals exact⟨⟨_,rfl,rfl⟩,⟨_,rfl,rfl⟩,⟨_,rfl,rfl⟩,⟨_,rfl,rfl⟩,⟨_,rfl,rfl⟩,⟨_,rfl,rfl⟩,trivial⟩
    cbv;all_goals exact⟨⟨_,rfl,_,rfl,rfl,rfl,rfl,trivial⟩,⟨_,rfl,rfl⟩,trivial⟩
   rw[aa hb3] at h_1;cbv;obtain⟨x7,hx7,h_1⟩:=ae h_1;try dsimp only at h_1
   refine ACall.mk _ _ rfl (hF _ _ _ (mA hg ht hx7)) (.inl rfl) (nb rfl) ?_;cbv;obtain⟨hc3,h_1⟩:=aj h_1;refine AStep.mk hc3 ?_;cbv;obtain⟨x8,hx8,h_1⟩:=aH h_1;try dsimp only at h_1
   refine AGet.mk _ (bp hg ht hx8) ?_;cbv
   cases hb4:(lt x8 0)
   rotate_left
   ·rw[ab hb4] at h_1;cbv;iterate 6 try(rw[hb4];cbv)
    obtain⟨hc4,h_1⟩:=aj h_1;refine AStep.mk hc4 ?_;cbv;refine AGet.mk _ (bp hg ht hx8) ?_;cbv;obtain⟨l1,hl1,h_1⟩:=ag h_1;try dsimp only at h_1
    refine ANew.mk (d_I64 l1) _ (by rw[←hl1];exact kJ hg ht _ _ x7) rfl ?_;have hnl1:(dlen (d_I64 w1))=(d_I64 l1).length:=(by rw[←hl1,jz ht];exact(ak hg ht _));cbv;try rw[hg] at h_1
    try rw[ht] at h_1
    refine⟨⟨(k1+1,(wrap .i64 (add v1 1)),l1),hc1_,hs1,h_1⟩,Wk.of [(0,some 0),(1,some 1)] rfl rfl ?_ ?_,aJ hc1_⟩
    ·cbv;all_goals try rw[show(dlen (d_I64 w1))=(dlen (d_I64 l1)) from(hnl1).trans (ak hg ht _).symm]
     all_goals exact⟨⟨_,rfl,rfl⟩,⟨_,rfl,rfl⟩,⟨_,rfl,rfl⟩,⟨_,rfl,rfl⟩,⟨_,rfl,rfl⟩,⟨_,rfl,rfl⟩,trivial⟩
    cbv;all_goals try rw[show(dlen (d_I64 w1))=(dlen (d_I64 l1)) from(hnl1).trans (ak hg ht _).symm]
    all_goals exact⟨⟨_,rfl,_,rfl,rfl,rfl,rfl,trivial⟩,⟨_,rfl,rfl⟩,trivial⟩
   rw[aa hb4] at h_1;cbv;iterate 3 try(rw[hb4];cbv)
   obtain⟨hc5,h_1⟩:=aj h_1;refine AStep.mk hc5 ?_;cbv;try(rw[hb4];cbv)
   refine AGet.mk _ (bp hg ht hx8) ?_;cbv;iterate 2 try(rw[hb4];cbv)
   cases hb5:(lt x7 x8)
   ·rw[aa hb5] at h_1;cbv;try rw[hg] at h_1
    try rw[ht] at h_1
    refine⟨⟨(k1+1,(wrap .i64 (add v1 1)),w1),hc1_,hs1,h_1⟩,Wk.of [(0,some 0),(1,some 1)] rfl rfl ?_ ?_,aJ hc1_⟩
    ·cbv;all_goals exact⟨⟨_,rfl,rfl⟩,⟨_,rfl,rfl⟩,⟨_,rfl,rfl⟩,⟨_,rfl,rfl⟩,⟨_,rfl,rfl⟩,⟨_,rfl,rfl⟩,trivial⟩
    cbv;all_goals exact⟨⟨_,rfl,_,rfl,rfl,rfl,rfl,trivial⟩,⟨_,rfl,rfl⟩,trivial⟩
   rw[ab hb5] at h_1;cbv;obtain⟨hc6,h_1⟩:=aj h_1;refine AStep.mk hc6 ?_;cbv;refine AGet.mk _ (bp hg ht hx8) ?_;cbv;obtain⟨l2,hl2,h_1⟩:=ag h_1;try dsimp only at h_1
   refine ANew.mk (d_I64 l2) _ (by rw[←hl2];exact kJ hg ht _ _ x7) rfl ?_;have hnl2:(dlen (d_I64 w1))=(d_I64 l2).length:=(by rw[←hl2,jz ht];exact(ak hg ht _));cbv;try rw[hg] at h_1
   try rw[ht] at h_1
   refine⟨⟨(k1+1,(wrap .i64 (add v1 1)),l2),hc1_,hs1,h_1⟩,Wk.of [(0,some 0),(1,some 1)] rfl rfl ?_ ?_,aJ hc1_⟩
   ·cbv;all_goals try rw[show(dlen (d_I64 w1))=(dlen (d_I64 l2)) from(hnl2).trans (ak hg ht _).symm]
    all_goals exact⟨⟨_,rfl,rfl⟩,⟨_,rfl,rfl⟩,⟨_,rfl,rfl⟩,⟨_,rfl,rfl⟩,⟨_,rfl,rfl⟩,⟨_,rfl,rfl⟩,trivial⟩
   cbv;all_goals try rw[show(dlen (d_I64 w1))=(dlen (d_I64 l2)) from(hnl2).trans (ak hg ht _).symm]
   all_goals exact⟨⟨_,rfl,_,rfl,rfl,rfl,rfl,trivial⟩,⟨_,rfl,rfl⟩,trivial⟩
  have hb1:lt v1 (llen (r_Leg a0_Legs))=false:=cH hg ht hi1 hc1_;rw[List.drop_of_length_le (Nat.le_of_not_lt hc1_)] at h_1;rw[bv] at h_1;try rw[←hg] at h_1
  try rw[←ht] at h_1
  try dsimp only at h_1
  rw[hb1];cbv;refine⟨w1,Wk.of [(0,some 1)] rfl rfl ?_ ?_,(Option.some.inj h_1).symm⟩
  ·cbv;all_goals exact⟨⟨_,rfl,rfl⟩,trivial⟩
  cbv;all_goals exact⟨⟨_,rfl,rfl⟩,trivial⟩
 rintro y1 hy1;replace hy1:=hy1.symm;subst hy1;try dsimp only[lr,lrL,lrp,aW] at h
 cbv;obtain rfl:=Option.some.inj h;exact ARet.mk ⟨rfl,(ak hg ht _)⟩ hX.symm
end Go.Vs
