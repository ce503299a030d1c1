/- Part of the proofs of this seat's laws: Lac. No condition. -/
import Derived.Test.YticpmdigfdpmfaaGreatTy
import Derived.Test.YticpmdigfdpmfaaGreatTIRall
import Derived.Test.YticpmdigfdpmfaaGreatLab
set_option linter.unusedVariables false
set_option linter.unusedSimpArgs false
set_option linter.unusedSectionVars false
namespace Go.Vs
set_option maxRecDepth 100000
def ir59:J:=js [jm 4 (ki 0)] [0,1] (.seq (js [jm 5 (ki 0)] [0,1,5] (.bl 0 (.seq (js [jm 6 5,jm 7 0,jq 8 (.len false 7),jb 9 .lss .i 6 8] [0,1,5,9] (.cond 9 .skip (.exit 0))) (.seq (.block 1 (js [jm 12 0,jm 13 5,ja 14 1 12 13,jk 15 14,jm 16 1,jb 17 .eql .s 15 16] [0,1,5,17] (.cond 17 (js [jm 18 5,jm 4 18] [4] .ret) .skip))) (.reg none [jm 10 5,jb 11 .add .i 10 (ki 1),jm 5 11] [0,1,5]))))) (js [jq 4 (.mv (.k (V.i (-1))))] [4] .ret))
def rv59:List RV:=[.t 4]
open Go.Proofs Go.IntWalk
set_option linter.unusedVariables false
set_option maxHeartbeats 4000000
def dH (g:G) (t:TE) (a1:ByteArray):List ByteArray→Int→LR Int Unit
 |[],v1=>
  (LR.out ())
 |z1::ls1,v1=>
  br (g.seq z1 a1)
  (
   (LR.ret v1))
  (
   dH g t a1 ls1 (g.wrap .i64 (g.add v1 1)))
def cL (g:G) (t:TE) (a0:List ByteArray) (a1:ByteArray):Int:=
 lP (dH g t a1 a0 0) fun o1=>lrp o1 fun y1=>
 (-1)
theorem c5 {g:G} {t:TE} {a0:List ByteArray} {a1:ByteArray} {r:Int} (hg:g=G.real) (ht:t=TE.real) (h:cL g t a0 a1=r):Fn Tryz.prog 59 [.c (.s 1 (t.r_S a0)),.c (.v (.string a1))] (.c (.r (.v (.int .i64 r)))):=by
 obtain⟨X,hX⟩:=aC (.c (.r (.v (.int .i64 r))):X);rw[←hX];refine aA (rvs:=rv59) (j:=ir59) Tryz.func59 rfl (by kernel_rfl) (nb rfl) (by kernel_rfl) af ?_;intro g2 F hg2 hF;obtain rfl:g2=g:=hg2.unique.trans hg.symm;clear hg2;obtain⟨wrap,lt,_,_,_,_,_,_,_,_,_,_,_,add,_,_,_,seq,_,_,_,llen⟩:=g2;obtain⟨_,_,_,_,_,_,_,_,_,_,_,_,r_S⟩:=t
 unfold cL at h;try dsimp only at h
 cbv;obtain⟨o1,ho1,h⟩:=ah h;try dsimp only at h
 try rw[hg] at ho1
 try rw[ht] at ho1
 refine ABL.mk {p:Nat×Int//p.1≤a0.length∧p.2=((p.1:Nat):Int)∧dH G.real TE.real a1 (List.drop p.1 a0) p.2=o1} (fun⟨⟨k1,v1⟩,_⟩=>({sl:=[(0,.c (.r (.s 1 (r_S a0)))),(1,.c (.r (.v (.string a1)))),(5,.c (.r (.v (.int .i64 v1))))],tab:=[]}:St)) 0 (fun p=>a0.length-p.1.1) ⟨(0,0),Nat.zero_le _,rfl,ho1⟩ (Unit) (fun _=>({sl:=[],tab:=[]}:St)) 0 (fun y=>o1=LR.out y) ?_ ?_ ?_
 ·refine Wk.of [] rfl rfl ?_ ?_
  ·cbv;all_goals exact⟨⟨_,rfl,rfl⟩,⟨_,rfl,rfl⟩,⟨_,rfl,rfl⟩,trivial⟩
  cbv;all_goals exact trivial
 ·rintro⟨⟨k1,v1⟩,hk1,hi1,h_1⟩ hq1;have hm1:=(hq1.1 0 _ _ rfl);try dsimp only at hk1 hi1 h_1
  clear hq1;cbv
  by_cases hc1_:k1<a0.length
  ·have hb1:lt v1 (llen (r_S a0))=true:=mX hg ht hi1 hc1_;have hs1:=uJ hg ht hi1 hc1_ hm1;obtain⟨z1,hz1⟩:=aX hc1_;rw[aH hz1] at h_1;rw[dH] at h_1;try rw[←hg] at h_1
   try rw[←ht] at h_1
   try dsimp only at h_1
   rw[hb1];cbv;refine AStep.mk (fP hi1) ?_;cbv;refine AGet.mk _ (wy hg ht hi1 hz1) ?_;cbv
   cases hb2:(seq z1 a1)
   rotate_left
   ·rw[ab hb2] at h_1;cbv;subst h_1;try dsimp only[lr,lrL,lrp,aZ] at h
    subst h;exact ARet.mk trivial hX.symm
   rw[aa hb2] at h_1;cbv;try rw[hg] at h_1
   try rw[ht] at h_1
   refine⟨⟨(k1+1,(wrap .i64 (add v1 1))),hc1_,hs1,h_1⟩,Wk.of [] rfl rfl ?_ ?_,bc hc1_⟩
   ·cbv;all_goals exact⟨⟨_,rfl,rfl⟩,⟨_,rfl,rfl⟩,⟨_,rfl,rfl⟩,trivial⟩
   cbv;all_goals exact trivial
  have hb1:lt v1 (llen (r_S a0))=false:=lh hg ht hi1 hc1_;rw[List.drop_of_length_le (Nat.le_of_not_lt hc1_)] at h_1;rw[dH] at h_1;try rw[←hg] at h_1
  try rw[←ht] at h_1
  try dsimp only at h_1
  rw[hb1];cbv;refine⟨(),Wk.of [] rfl rfl ?_ ?_,h_1.symm⟩
  ·cbv;all_goals exact trivial
  cbv;all_goals exact trivial
 rintro _ hy1;replace hy1:=hy1.symm;subst hy1;try dsimp only[lr,lrL,lrp,aZ] at h
 cbv;subst h;exact ARet.mk trivial hX.symm
def Hh:J:=js [jm 6 kf] [0,1,2] (js [jm 7 0,jm 8 1,jb 9 .geq .i 7 8,jm 10 9,ju 11 10 (.mv 0),ju 12 10 (.mv 2),ju 13 10 (.bin .leq .i 11 12),jq 14 (.pick 10 13 kf),jm 6 14] [6] .ret)
def GD:List RV:=[.t 6]
def fO (g:G) (t:TE) (a0:Int) (a1:Int) (a2:Int):Bool:=
 br (g.le a1 a0)
 (
  (g.le a0 a2))
 (
  false)
theorem eS {g:G} {t:TE} {a0:Int} {a1:Int} {a2:Int} {r:Bool} (hg:g=G.real) (ht:t=TE.real) (h:fO g t a0 a1 a2=r):Fn Tryz.prog 141 [.c (.v (.int .i64 a0)),.c (.v (.int .i64 a1)),.c (.v (.int .i64 a2))] (.c (.r (.v (.bool r)))):=by
 obtain⟨X,hX⟩:=aC (.c (.r (.v (.bool r))):X);rw[←hX];refine aA (rvs:=GD) (j:=Hh) Tryz.func141 rfl (by kernel_rfl) (nb rfl) (by kernel_rfl) af ?_;intro g2 F hg2 hF;obtain rfl:g2=g:=hg2.unique.trans hg.symm;clear hg2;obtain⟨_,_,le⟩:=g2;obtain⟨_⟩:=t
 unfold fO at h;try dsimp only at h
 cbv
 cases hb1:(le a1 a0)
 rotate_left
 ·rw[ab hb1] at h;cbv;iterate 3 try(rw[hb1];cbv)
  subst h;exact ARet.mk trivial hX.symm
 rw[aa hb1] at h;cbv;iterate 3 try(rw[hb1];cbv)
 subst h;exact ARet.mk trivial hX.symm
def Hb:J:=js [jm 2 kf] [0] (.seq (js [jm 4 0,jq 5 (.len true 4),jb 6 .neq .i 5 (ki 3)] [0,6] (.cond 6 (js [jm 2 kf] [2] .ret) .skip)) (.seq (js [jm 3 (ki 0)] [0,3] (.bl 0 (.seq (js [jm 7 3,jb 8 .lss .i 7 (ki 3)] [0,3,8] (.cond 8 .skip (.exit 0))) (.seq (.block 1 (js [jm 11 0,jm 12 3,jq 13 (.idx 11 12),jq 14 (.cvt .i64 13),jc 15 141 [14,(ki 65),(ki 90)],jq 16 (.not 15)] [0,3,16] (.cond 16 (js [jm 2 kf] [2] .ret) .skip))) (.reg none [jm 9 3,jb 10 .add .i 9 (ki 1),jm 3 10] [0,3]))))) (js [jm 2 kt] [2] .ret)))
def G4:List RV:=[.t 2]
def dn (g:G) (t:TE) (a0:ByteArray):Nat→Int→Option (LR Bool Unit)
 |0,v1=>
  some (LR.out ())
 |n1+1,v1=>
  gd (((0:Int)≤v1∧v1<(((a0.size):Nat):Int)))<|
  lP (fO g t (g.wrap .i64 (g.byte a0 v1)) 65 90) fun x1=>
  br x1
  (
   dn g t a0 n1 (g.wrap .i64 (g.add v1 1)))
  (
   some (LR.ret false))
def iQ (g:G) (t:TE) (a0:ByteArray):Option Bool:=
 br (g.eq (g.int (g.slen a0)) 3)
 (
  cl (dn g t a0 (ap 0 3) 0) fun o1=>lr o1 fun y1=>
  some true)
 (
  some false)
theorem pM {g:G} {t:TE} {a0:ByteArray} {r:Bool} (hg:g=G.real) (ht:t=TE.real) (h:iQ g t a0=some r):Fn Tryz.prog 177 [.c (.v (.string a0))] (.c (.r (.v (.bool r)))):=by
 obtain⟨X,hX⟩:=aC (.c (.r (.v (.bool r))):X);rw[←hX];refine aA (rvs:=G4) (j:=Hb) Tryz.func177 rfl (by kernel_rfl) (nb rfl) (by kernel_rfl) af ?_;intro g2 F hg2 hF;obtain rfl:g2=g:=hg2.unique.trans hg.symm;clear hg2;obtain⟨wrap,lt,_,eq,_,_,_,_,_,_,_,_,int,add,_,_,_,_,_,_,_,_,_,_,_,_,_,_,_,_,_,_,_,_,_,slen⟩:=g2;obtain⟨_⟩:=t
 unfold iQ at h;try dsimp only at h
 cbv
 cases hb1:(eq (int (slen a0)) 3)
 ·rw[aa hb1] at h;cbv;obtain rfl:=Option.some.inj h;exact ARet.mk trivial hX.symm
 rw[ab hb1] at h;cbv;obtain⟨o1,ho1,h⟩:=ae h;try dsimp only at h
 try rw[hg] at ho1
 try rw[ht] at ho1
 refine ABL.mk {p:Nat×Int//p.1=ap p.2 3∧0≤p.2∧dn G.real TE.real a0 p.1 p.2=some o1} (fun⟨⟨n1,v1⟩,_⟩=>({sl:=[(0,.c (.r (.v (.string a0)))),(3,.c (.r (.v (.int .i64 v1))))],tab:=[]}:St)) 0 (fun p=>p.1.1) ⟨(ap 0 3,0),rfl,Int.le_refl _,ho1⟩ (Unit) (fun _=>({sl:=[],tab:=[]}:St)) 0 (fun y=>o1=LR.out y) ?_ ?_ ?_
 ·refine Wk.of [] rfl rfl ?_ ?_
  ·cbv;all_goals exact⟨⟨_,rfl,rfl⟩,⟨_,rfl,rfl⟩,trivial⟩
  cbv;all_goals exact trivial
 ·rintro⟨⟨n1,v1⟩,hn1,hi1,h_1⟩ hq1;try dsimp only at hn1 hi1 h_1
  clear hq1;cbv;rcases n1 with _|n1
  ·have hb2:lt v1 3=false:=ba hg hn1;rw[dn] at h_1;try rw[←hg] at h_1
   try rw[←ht] at h_1
   try dsimp only at h_1
   rw[hb2];cbv;refine⟨(),Wk.of [] rfl rfl ?_ ?_,(Option.some.inj h_1).symm⟩
   ·cbv;all_goals exact trivial
   cbv;all_goals exact trivial
  have hb2:lt v1 3=true:=bt hg hn1;have hl1:=cR hn1;have hs1:=bS hg hn1 hi1 (by decide) (by decide);rw[dn] at h_1;try rw[←hg] at h_1
  try rw[←ht] at h_1
  try dsimp only at h_1
  rw[hb2];cbv;obtain⟨hc1,h_1⟩:=ak h_1;refine AStep.mk hc1 ?_;cbv;obtain⟨x1,hx1,h_1⟩:=ah h_1;try dsimp only at h_1
  refine ACall.mk _ _ rfl (hF _ _ _ (eS hg ht hx1)) (.inl rfl) (nb rfl) ?_;cbv
  cases hb3:x1
  ·rw[aa hb3] at h_1;cbv;obtain rfl:=Option.some.inj h_1;try dsimp only[lr,lrL,lrp,aZ] at h
   obtain rfl:=Option.some.inj h;exact ARet.mk trivial hX.symm
  rw[ab hb3] at h_1;cbv;try rw[hg] at h_1
  try rw[ht] at h_1
  refine⟨⟨(n1,(wrap .i64 (add v1 1))),hs1.1,hs1.2,h_1⟩,Wk.of [] rfl rfl ?_ ?_,Nat.lt_succ_self _⟩
  ·cbv;all_goals exact⟨⟨_,rfl,rfl⟩,⟨_,rfl,rfl⟩,trivial⟩
  cbv;all_goals exact trivial
 rintro _ hy1;replace hy1:=hy1.symm;subst hy1;try dsimp only[lr,lrL,lrp,aZ] at h
 cbv;obtain rfl:=Option.some.inj h;exact ARet.mk trivial hX.symm
def HB:J:=js [jq 1 (.box 0),jm 2 kf] [1] (js [jf 3 0 1,jk 4 3,jc 5 177 [4],jm 6 5,ju 7 6 (.fa 1 1),ju 8 6 (.ld false 1 7),ju 9 6 (.call 177 true [8]),jq 10 (.pick 6 9 kf),jm 11 10,ju 12 11 (.fa 0 1),ju 13 11 (.ld false 1 12),ju 14 11 (.fa 1 1),ju 15 11 (.ld false 1 14),ju 16 11 (.bin .neq .s 13 15),jq 17 (.pick 11 16 kf),jm 18 17,ju 19 18 (.fa 2 1),ju 20 18 (.ld false 1 19),ju 21 18 (.call 141 true [20,(ki 0),(ki 1439)]),jq 22 (.pick 18 21 kf),jm 23 22,ju 24 23 (.fa 3 1),ju 25 23 (.ld false 1 24),ju 26 23 (.call 141 true [25,(ki 1),(ki 4320)]),jq 27 (.pick 23 26 kf),jm 28 27,ju 29 28 (.fa 4 1),ju 30 28 (.ld false 1 29),ju 31 28 (.call 141 true [30,(ki 1),(ki 127)]),jq 32 (.pick 28 31 kf),jm 33 32,ju 34 33 (.fa 5 1),ju 35 33 (.ld false 1 34),ju 36 33 (.call 141 true [35,(ki 0),(ki 1000000)]),jq 37 (.pick 33 36 kf),jm 2 37] [2] .ret)
def Ha:List RV:=[.t 2]
def nQ (g:G) (t:TE) (a0:Leg):Option Bool:=
 cl (iQ g t a0.From) fun x1=>
 br x1
 (
  cl (iQ g t a0.To) fun x2=>
  br x2
  (
   br (g.seq a0.From a0.To)
   (
    some false)
   (
    lP (fO g t a0.Start 0 1439) fun x3=>
    br x3
    (
     lP (fO g t a0.Takes 1 4320) fun x4=>
     br x4
     (
      lP (fO g t a0.Days 1 127) fun x5=>
      br x5
      (
       lP (fO g t a0.Room 0 1000000) fun x6=>
       some x6)
      (
       some false))
     (
      some false))
    (
     some false)))
  (
   some false))
 (
  some false)
theorem AY {g:G} {t:TE} {a0:Leg} {r:Bool} (hg:g=G.real) (ht:t=TE.real) (h:nQ g t a0=some r):Fn Tryz.prog 150 [.g (Leg.rs t a0)] (.c (.r (.v (.bool r)))):=by
 obtain⟨X,hX⟩:=aC (.c (.r (.v (.bool r))):X);rw[←hX];refine aA (rvs:=Ha) (j:=HB) Tryz.func150 rfl (by kernel_rfl) (nb rfl) (by kernel_rfl) af ?_;intro g2 F hg2 hF;obtain rfl:g2=g:=hg2.unique.trans hg.symm;clear hg2;obtain⟨_,_,_,_,_,_,_,_,_,_,_,_,_,_,_,_,_,seq⟩:=g2;obtain⟨_⟩:=t
 obtain⟨a0_From,a0_To,a0_Start,a0_Takes,a0_Days,a0_Room⟩:=a0;unfold nQ at h;try dsimp only at h
 cbv;obtain⟨x1,hx1,h⟩:=ae h;try dsimp only at h
 refine ACall.mk _ _ rfl (hF _ _ _ (pM hg ht hx1)) (.inl rfl) (nb rfl) ?_;cbv
 cases hb1:x1
 ·rw[aa hb1] at h;cbv;iterate 3 try(rw[hb1];cbv)
  obtain rfl:=Option.some.inj h;exact ARet.mk trivial hX.symm
 rw[ab hb1] at h;cbv;iterate 2 try(rw[hb1];cbv)
 obtain⟨x2,hx2,h⟩:=ae h;try dsimp only at h
 refine ACall.mk _ _ rfl (hF _ _ _ (pM hg ht hx2)) (.inl rfl) (nb rfl) ?_;cbv;try(rw[hb1];cbv)
 cases hb2:x2
 ·rw[aa hb2] at h;cbv;iterate 5 try(rw[hb2];cbv)
  obtain rfl:=Option.some.inj h;exact ARet.mk trivial hX.symm
 rw[ab hb2] at h;cbv;iterate 5 try(rw[hb2];cbv)
 cases hb3:(seq a0_From a0_To)
 rotate_left
 ·rw[ab hb3] at h;cbv;iterate 3 try(rw[hb3];cbv)
  obtain rfl:=Option.some.inj h;exact ARet.mk trivial hX.symm
 rw[aa hb3] at h;cbv;iterate 2 try(rw[hb3];cbv)
 obtain⟨x3,hx3,h⟩:=ah h;try dsimp only at h
 refine ACall.mk _ _ rfl (hF _ _ _ (eS hg ht hx3)) (.inl rfl) (nb rfl) ?_;cbv;try(rw[hb3];cbv)
 cases hb4:x3
 ·rw[aa hb4] at h;cbv;iterate 3 try(rw[hb4];cbv)
  obtain rfl:=Option.some.inj h;exact ARet.mk trivial hX.symm
 rw[ab hb4] at h;cbv;iterate 2 try(rw[hb4];cbv)
 obtain⟨x4,hx4,h⟩:=ah h;try dsimp only at h
 refine ACall.mk _ _ rfl (hF _ _ _ (eS hg ht hx4)) (.inl rfl) (nb rfl) ?_;cbv;try(rw[hb4];cbv)
 cases hb5:x4
 ·rw[aa hb5] at h;cbv;iterate 3 try(rw[hb5];cbv)
  obtain rfl:=Option.some.inj h;exact ARet.mk trivial hX.symm
 rw[ab hb5] at h;cbv;iterate 2 try(rw[hb5];cbv)
 obtain⟨x5,hx5,h⟩:=ah h;try dsimp only at h
 refine ACall.mk _ _ rfl (hF _ _ _ (eS hg ht hx5)) (.inl rfl) (nb rfl) ?_;cbv;try(rw[hb5];cbv)
 cases hb6:x5
 ·rw[aa hb6] at h;cbv;iterate 3 try(rw[hb6];cbv)
  obtain rfl:=Option.some.inj h;exact ARet.mk trivial hX.symm
 rw[ab hb6] at h;cbv;iterate 2 try(rw[hb6];cbv)
 obtain⟨x6,hx6,h⟩:=ah h;try dsimp only at h
 refine ACall.mk _ _ rfl (hF _ _ _ (eS hg ht hx6)) (.inl rfl) (nb rfl) ?_;cbv;try(rw[hb6];cbv)
 obtain rfl:=Option.some.inj h;exact ARet.mk trivial hX.symm
def Hi:J:=js [jq 1 (.box 0),jm 2 kf] [1] (.seq (js [jm 3 (ki 0)] [1,3] (.bl 0 (.seq (js [jm 5 3,jf 6 0 1,jk 7 6,jq 8 (.len false 7),jb 9 .lss .i 5 8] [1,3,9] (.cond 9 .skip (.exit 0))) (.seq (.block 1 (js [jf 12 0 1,jk 13 12,jm 14 3,ja 15 6 13 14,jl 16 6 15,jc 17 150 [16],jq 18 (.not 17)] [1,3,18] (.cond 18 (js [jm 2 kf] [2] .ret) .skip))) (.reg none [jm 10 3,jb 11 .add .i 10 (ki 1),jm 3 11] [1,3]))))) (.seq (js [jm 4 (ki 0)] [1,4] (.bl 2 (.seq (js [jm 19 4,jf 20 1 1,jk 21 20,jq 22 (.len false 21),jb 23 .lss .i 19 22] [1,4,23] (.cond 23 .skip (.exit 2))) (.seq (.block 3 (.seq (.reg (some [[],[0],[],[0,1,2],[0,1,2,3],[0,1,2,3,4],[0,1,2,3,4,5],[0,1,2,3,4,5,6],[0,1,2,3,4,5,6,7],[0,1,2,3,4,5,6,7,8],[0,1,2,3,4,5,6,7,8,9],[0,1,2,3,4,5,6,7,8,9,10],[0,1,2,3,4,5,6,7,8,9,10,11],[0,1,2,3,4,5,6,7,8,9,10],[0,1,2,3,4,5,6,7,8,9,10,13],[0,1,2,3,4,5,6,7,8,9,10,11,12,13,14],[0,1,2,3,4,5,6,7,8,9,10,11,12,13,14,15],[0,1,2,3,4,5,6,7,8,9,10],[0,1,2,3,4,5,6,7,8,9,10,17],[0,1,2,3,4,5,6,7,8,9,10],[0,1,2,3,4,5,6,7,8,9,10,17,18,19],[0,1,2,3,4,5,6,7,8,9,10,17,18,19,20],[0,1,2,3,4,5,6,7,8,9,10,11,12,13,14,15,16,17,18,19,20,21],[0,1,2,3,4,5,6,7,8,9,10,11,12,13,14,15,16,17,18,19,20,21,22],[0,1,2,3,4,5,6,7,8,9,10,11,12,13,14,15,16,17,18,19,20,21,22,23]]) [jf 26 1 1,jk 27 26,jm 28 4,ja 29 1 27 28,jk 30 29,jc 31 141 [30,(ki 0),(ki 60)],jq 32 (.not 31),jm 33 32,jv 34 33 (.mv 4),jv 35 33 (.bin .gtr .i 34 (ki 0)),jv 36 33 (.mv 35),ju 37 36 (.fa 1 1),ju 38 36 (.ld false 1 37),ju 39 36 (.mv 4),ju 40 36 (.bin .sub .i 39 (ki 1)),ju 41 36 (.ia 1 38 40),ju 42 36 (.ld false 1 41),ju 43 36 (.fa 1 1),ju 44 36 (.ld false 1 43),ju 45 36 (.mv 4),ju 46 36 (.ia 1 44 45),ju 47 36 (.ld false 1 46),ju 48 36 (.bin .geq .i 42 47),jv 49 33 (.pick 36 48 kf),jq 50 (.pick 33 kt 49)] [1,4,50]) (.cond 50 (js [jm 2 kf] [2] .ret) .skip))) (.reg none [jm 24 4,jb 25 .add .i 24 (ki 1),jm 4 25] [1,4]))))) (js [jf 51 0 1,jk 52 51,jq 53 (.len false 52),jb 54 .leq .i 53 (ki 20),jm 55 54,ju 56 55 (.fa 1 1),ju 57 55 (.ld false 1 56),ju 58 55 (.len false 57),ju 59 55 (.bin .leq .i 58 (ki 10)),jq 60 (.pick 55 59 kf),jm 61 60,ju 62 61 (.fa 2 1),ju 63 61 (.ld false 1 62),ju 64 61 (.call 141 true [63,(ki 0),(ki 240)]),jq 65 (.pick 61 64 kf),jm 2 65] [2] .ret)))
def GZ:List RV:=[.t 2]
def bW (g:G) (t:TE) (a0:Network):List Int→Int→Option (LR Bool Unit)
 |[],v2=>
  some (LR.out ())
 |z2::ls2,v2=>
  lP (fO g t z2 0 60) fun x2=>
  br x2
  (
   br (g.lt 0 v2)
   (
    gd (((0:Int)≤(g.wrap .i64 (g.sub v2 1))))<|
    gt a0.Off (g.nat (g.wrap .i64 (g.sub v2 1))) fun x3=>
    br (g.le z2 x3)
    (
     some (LR.ret false))
    (
     bW g t a0 ls2 (g.wrap .i64 (g.add v2 1))))
   (
    bW g t a0 ls2 (g.wrap .i64 (g.add v2 1))))
  (
   some (LR.ret false))
def cG (g:G) (t:TE):List Leg→Option (LR Bool Unit)
 |[]=>
  some (LR.out ())
 |z1::ls1=>
  cl (nQ g t z1) fun x1=>
  br x1
  (
   cG g t ls1)
  (
   some (LR.ret false))
def da (g:G) (t:TE) (a0:Network):Option Bool:=
 cl (cG g t a0.Legs) fun o1=>lr o1 fun y1=>
 cl (bW g t a0 a0.Off 0) fun o2=>lr o2 fun y2=>
 br (g.le (g.llen (t.r_Leg a0.Legs)) 20)
 (
  br (g.le (g.llen (t.r_I64 a0.Off)) 10)
  (
   lP (fO g t a0.Change 0 240) fun x4=>
   some x4)
  (
   some false))
 (
  some false)
theorem g7 {g:G} {t:TE} {a0:Network} {r:Bool} (hg:g=G.real) (ht:t=TE.real) (h:da g t a0=some r):Fn Tryz.prog 113 [.g (Network.rs t a0)] (.c (.r (.v (.bool r)))):=by
 obtain⟨X,hX⟩:=aC (.c (.r (.v (.bool r))):X);rw[←hX];refine aA (rvs:=GZ) (j:=Hi) Tryz.func113 rfl (by kernel_rfl) (nb rfl) (by kernel_rfl) af ?_;intro g2 F hg2 hF;obtain rfl:g2=g:=hg2.unique.trans hg.symm;clear hg2;obtain⟨wrap,lt,le,_,_,_,_,_,_,_,_,_,_,add,_,_,_,_,_,_,_,llen⟩:=g2;obtain⟨_,_,_,_,r_Leg,_,r_I64⟩:=t
 obtain⟨a0_Legs,a0_Off,a0_Change⟩:=a0;unfold da at h;try dsimp only at h
 cbv;obtain⟨o1,ho1,h⟩:=ae h;try dsimp only at h
 try rw[hg] at ho1
 try rw[ht] at ho1
 refine ABL.mk {p:Nat×Int//p.1≤a0_Legs.length∧p.2=((p.1:Nat):Int)∧cG G.real TE.real (List.drop p.1 a0_Legs)=some o1} (fun⟨⟨k1,v1⟩,_⟩=>({sl:=[(1,.c (.p 0 3 0 0)),(3,.c (.r (.v (.int .i64 v1))))],tab:=[(0,some (.foc 3 [] [.r (.s 6 (r_Leg a0_Legs)),.r (.s 1 (r_I64 a0_Off)),.r (.v (.int .i64 a0_Change))] []))]}:St)) 1 (fun p=>a0_Legs.length-p.1.1) ⟨(0,0),Nat.zero_le _,rfl,ho1⟩ (Unit) (fun _=>({sl:=[(1,.c (.p 0 3 0 0))],tab:=[(0,some (.foc 3 [] [.r (.s 6 (r_Leg a0_Legs)),.r (.s 1 (r_I64 a0_Off)),.r (.v (.int .i64 a0_Change))] []))]}:St)) 1 (fun y=>o1=LR.out y) ?_ ?_ ?_
 ·refine Wk.of [(0,some 0)] rfl rfl ?_ ?_
  ·cbv;all_goals exact⟨⟨_,rfl,rfl⟩,⟨_,rfl,rfl⟩,trivial⟩
  cbv;all_goals exact⟨⟨_,rfl,_,rfl,rfl,rfl,rfl,trivial⟩,trivial⟩
 ·rintro⟨⟨k1,v1⟩,hk1,hi1,h_1⟩ hq1;have hm1:=(hq1.2.2.1 0 _ _ _ _ 0 _ _ rfl rfl);try dsimp only at hk1 hi1 h_1
  clear hq1;cbv
  by_cases hc1_:k1<a0_Legs.length
  ·have hb1:lt v1 (llen (r_Leg a0_Legs))=true:=eZ hg ht hi1 hc1_;have hs1:=iL hg ht hi1 hc1_ hm1;obtain⟨z1,hz1⟩:=aX hc1_;rw[aH hz1] at h_1;rw[cG] at h_1;obtain⟨z1_From,z1_To,z1_Start,z1_Takes,z1_Days,z1_Room⟩:=z1;try rw[←hg] at h_1
   try rw[←ht] at h_1
   try dsimp only at h_1
   rw[hb1];cbv;refine AStep.mk (fP hi1) ?_;cbv;refine AGet.mk _ (eT hg ht hi1 hz1) ?_;cbv;obtain⟨x1,hx1,h_1⟩:=ae h_1;try dsimp only at h_1
   refine ACall.mk _ _ rfl (hF _ _ _ (AY hg ht hx1)) (.inl rfl) (nb rfl) ?_;cbv
   cases hb2:x1
   ·rw[aa hb2] at h_1;cbv;obtain rfl:=Option.some.inj h_1;try dsimp only[lr,lrL,lrp,aZ] at h
    obtain rfl:=Option.some.inj h;exact ARet.mk trivial hX.symm
   rw[ab hb2] at h_1;cbv;try rw[hg] at h_1
   try rw[ht] at h_1
   refine⟨⟨(k1+1,(wrap .i64 (add v1 1))),hc1_,hs1,h_1⟩,Wk.of [(0,some 0)] rfl rfl ?_ ?_,bc hc1_⟩
   ·cbv;all_goals exact⟨⟨_,rfl,rfl⟩,⟨_,rfl,rfl⟩,trivial⟩
   cbv;all_goals exact⟨⟨_,rfl,_,rfl,rfl,rfl,rfl,trivial⟩,trivial⟩
  have hb1:lt v1 (llen (r_Leg a0_Legs))=false:=eG hg ht hi1 hc1_;rw[List.drop_of_length_le (Nat.le_of_not_lt hc1_)] at h_1;rw[cG] at h_1;try rw[←hg] at h_1
  try rw[←ht] at h_1
  try dsimp only at h_1
  rw[hb1];cbv;refine⟨(),Wk.of [(0,some 0)] rfl rfl ?_ ?_,(Option.some.inj h_1).symm⟩
  ·cbv;all_goals exact⟨⟨_,rfl,rfl⟩,trivial⟩
  cbv;all_goals exact⟨⟨_,rfl,_,rfl,rfl,rfl,rfl,trivial⟩,trivial⟩
 rintro _ hy1;replace hy1:=hy1.symm;subst hy1;try dsimp only[lr,lrL,lrp,aZ] at h
 cbv;obtain⟨o2,ho2,h⟩:=ae h;try dsimp only at h
 try rw[hg] at ho2
 try rw[ht] at ho2
 refine ABL.mk {p:Nat×Int//p.1≤a0_Off.length∧p.2=((p.1:Nat):Int)∧bW G.real TE.real (Network.mk a0_Legs a0_Off a0_Change) (List.drop p.1 a0_Off) p.2=some o2} (fun⟨⟨k2,v2⟩,_⟩=>({sl:=[(1,.c (.p 0 3 0 0)),(4,.c (.r (.v (.int .i64 v2))))],tab:=[(0,some (.foc 3 [] [.r (.s 6 (r_Leg a0_Legs)),.r (.s 1 (r_I64 a0_Off)),.r (.v (.int .i64 a0_Change))] []))]}:St)) 1 (fun p=>a0_Off.length-p.1.1) ⟨(0,0),Nat.zero_le _,rfl,ho2⟩ (Unit) (fun _=>({sl:=[(1,.c (.p 0 3 0 0))],tab:=[(0,some (.foc 3 [] [.r (.s 6 (r_Leg a0_Legs)),.r (.s 1 (r_I64 a0_Off)),.r (.v (.int .i64 a0_Change))] []))]}:St)) 1 (fun y=>o2=LR.out y) ?_ ?_ ?_
 ·refine Wk.of [(0,some 0)] rfl rfl ?_ ?_
  ·cbv;all_goals exact⟨⟨_,rfl,rfl⟩,⟨_,rfl,rfl⟩,trivial⟩
  cbv;all_goals exact⟨⟨_,rfl,_,rfl,rfl,rfl,rfl,trivial⟩,trivial⟩
 ·rintro⟨⟨k2,v2⟩,hk2,hi2,h_2⟩ hq2;have hm2:=(hq2.2.2.1 0 _ _ _ _ 1 _ _ rfl rfl);try dsimp only at hk2 hi2 h_2
  clear hq2;cbv
  by_cases hc2_:k2<a0_Off.length
  ·have hb3:lt v2 (llen (r_I64 a0_Off))=true:=e8 hg ht hi2 hc2_;have hs2:=iM hg ht hi2 hc2_ hm2;obtain⟨z2,hz2⟩:=aX hc2_;rw[aH hz2] at h_2;rw[bW] at h_2;try rw[←hg] at h_2
   try rw[←ht] at h_2
   try dsimp only at h_2
   rw[hb3];cbv;refine AStep.mk (fP hi2) ?_;cbv;refine AGet.mk _ (fT hg ht hi2 hz2) ?_;cbv;obtain⟨x2,hx2,h_2⟩:=ah h_2;try dsimp only at h_2
   refine ACall.mk _ _ rfl (hF _ _ _ (eS hg ht hx2)) (.inl rfl) (nb rfl) ?_;cbv
   cases hb4:x2
   ·rw[aa hb4] at h_2;cbv;iterate 4 try(rw[hb4];cbv)
    obtain rfl:=Option.some.inj h_2;try dsimp only[lr,lrL,lrp,aZ] at h
    obtain rfl:=Option.some.inj h;exact ARet.mk trivial hX.symm
   rw[ab hb4] at h_2;cbv;iterate 2 try(rw[hb4];cbv)
   cases hb5:(lt 0 v2)
   ·rw[aa hb5] at h_2;cbv;iterate 11 try(rw[hb5];cbv)
    try(rw[hb4];cbv)
    try(rw[hb5];cbv)
    try(rw[hb4];cbv)
    try rw[hg] at h_2
    try rw[ht] at h_2
    refine⟨⟨(k2+1,(wrap .i64 (add v2 1))),hc2_,hs2,h_2⟩,Wk.of [(0,some 0)] rfl rfl ?_ ?_,bc hc2_⟩
    ·cbv;all_goals exact⟨⟨_,rfl,rfl⟩,⟨_,rfl,rfl⟩,trivial⟩
    cbv;all_goals exact⟨⟨_,rfl,_,rfl,rfl,rfl,rfl,trivial⟩,trivial⟩
   rw[ab hb5] at h_2;cbv;iterate 4 try(rw[hb5];cbv)
   obtain⟨hc1,h_2⟩:=ak h_2;refine AStep.mk hc1 ?_;cbv;obtain⟨x3,hx3,h_2⟩:=aE h_2;try dsimp only at h_2
   refine AGet.mk _ (e7 hg ht hx3) ?_;cbv;iterate 5 try(rw[hb5];cbv)
   refine AStep.mk (fP hi2) ?_;cbv;refine AGet.mk _ (fT hg ht hi2 hz2) ?_;cbv;iterate 2 try(rw[hb5];cbv)
   try(rw[hb4];cbv)
   try(rw[hb5];cbv)
   try(rw[hb4];cbv)
   cases hb6:(le z2 x3)
   rotate_left
   ·rw[ab hb6] at h_2;cbv;obtain rfl:=Option.some.inj h_2;try dsimp only[lr,lrL,lrp,aZ] at h
    obtain rfl:=Option.some.inj h;exact ARet.mk trivial hX.symm
   rw[aa hb6] at h_2;cbv;try rw[hg] at h_2
   try rw[ht] at h_2
   refine⟨⟨(k2+1,(wrap .i64 (add v2 1))),hc2_,hs2,h_2⟩,Wk.of [(0,some 0)] rfl rfl ?_ ?_,bc hc2_⟩
   ·cbv;all_goals exact⟨⟨_,rfl,rfl⟩,⟨_,rfl,rfl⟩,trivial⟩
   cbv;all_goals exact⟨⟨_,rfl,_,rfl,rfl,rfl,rfl,trivial⟩,trivial⟩
  have hb3:lt v2 (llen (r_I64 a0_Off))=false:=eE hg ht hi2 hc2_;rw[List.drop_of_length_le (Nat.le_of_not_lt hc2_)] at h_2;rw[bW] at h_2;try rw[←hg] at h_2
  try rw[←ht] at h_2
  try dsimp only at h_2
  rw[hb3];cbv;refine⟨(),Wk.of [(0,some 0)] rfl rfl ?_ ?_,(Option.some.inj h_2).symm⟩
  ·cbv;all_goals exact⟨⟨_,rfl,rfl⟩,trivial⟩
  cbv;all_goals exact⟨⟨_,rfl,_,rfl,rfl,rfl,rfl,trivial⟩,trivial⟩
 rintro _ hy2;replace hy2:=hy2.symm;subst hy2;try dsimp only[lr,lrL,lrp,aZ] at h
 cbv
 cases hb7:(le (llen (r_Leg a0_Legs)) 20)
 ·rw[aa hb7] at h;cbv;iterate 4 try(rw[hb7];cbv)
  obtain rfl:=Option.some.inj h;exact ARet.mk trivial hX.symm
 rw[ab hb7] at h;cbv;iterate 4 try(rw[hb7];cbv)
 cases hb8:(le (llen (r_I64 a0_Off)) 10)
 ·rw[aa hb8] at h;cbv;iterate 3 try(rw[hb8];cbv)
  obtain rfl:=Option.some.inj h;exact ARet.mk trivial hX.symm
 rw[ab hb8] at h;cbv;iterate 2 try(rw[hb8];cbv)
 obtain⟨x4,hx4,h⟩:=ah h;try dsimp only at h
 refine ACall.mk _ _ rfl (hF _ _ _ (eS hg ht hx4)) (.inl rfl) (nb rfl) ?_;cbv;try(rw[hb8];cbv)
 obtain rfl:=Option.some.inj h;exact ARet.mk trivial hX.symm
def HN:J:=js [jm 4 (ki 0)] [0,1] (.seq (js [jm 5 1,jm 6 0,jb 7 .gtr .i 5 6] [0,1,7] (.cond 7 (js [jm 8 1,jm 4 8] [4] .ret) .skip)) (js [jm 9 0,jm 4 9] [4] .ret))
def HR:List RV:=[.t 4]
def tX (g:G) (t:TE) (a0:Int) (a1:Int):Int:=
 br (g.lt a0 a1)
 (
  a1)
 (
  a0)
theorem zC {g:G} {t:TE} {a0:Int} {a1:Int} {r:Int} (hg:g=G.real) (ht:t=TE.real) (h:tX g t a0 a1=r):Fn Tryz.prog 151 [.c (.v (.int .i64 a0)),.c (.v (.int .i64 a1))] (.c (.r (.v (.int .i64 r)))):=by
 obtain⟨X,hX⟩:=aC (.c (.r (.v (.int .i64 r))):X);rw[←hX];refine aA (rvs:=HR) (j:=HN) Tryz.func151 rfl (by kernel_rfl) (nb rfl) (by kernel_rfl) af ?_;intro g2 F hg2 hF;obtain rfl:g2=g:=hg2.unique.trans hg.symm;clear hg2;obtain⟨_,lt⟩:=g2;obtain⟨_⟩:=t
 unfold tX at h;try dsimp only at h
 cbv
 cases hb1:(lt a0 a1)
 rotate_left
 ·rw[ab hb1] at h;cbv;subst h;exact ARet.mk trivial hX.symm
 rw[aa hb1] at h;cbv;subst h;exact ARet.mk trivial hX.symm
def Hk:J:=js [jq 6 (.mv (.k (.c (.n 1))))] [0,1,2] (js [jq 9 (.bsl 1 []),jm 7 9] [0,1,2,7] (.seq (js [jm 8 (ki 0)] [0,1,2,7,8] (.bl 0 (.seq (js [jm 10 8,jm 11 0,jq 12 (.len false 11),jb 13 .lss .i 10 12] [0,1,2,7,8,13] (.cond 13 .skip (.exit 0))) (.seq (.block 1 (js [jm 16 8,jm 17 1,jb 18 .eql .i 16 17] [0,1,2,7,8,18] (.cond 18 (.reg none [jm 19 7,jm 20 2,jc 21 151 [20,(ki 0)],jq 22 (.bsl 1 [21]),jq 23 (.app 1 8 true 19 22),jm 7 23] [0,1,2,7,8]) (.reg none [jm 24 7,jq 25 (.bsl 1 [(.k (V.i (-1)))]),jq 26 (.app 1 8 true 24 25),jm 7 26] [0,1,2,7,8])))) (.reg none [jm 14 8,jb 15 .add .i 14 (ki 1),jm 8 15] [0,1,2,7,8]))))) (js [jm 27 7,jm 6 27] [6] .ret)))
def Gv:List RV:=[.t 6]
def cT (g:G) (t:TE) (a1:Int) (a2:Int):List ByteArray→Int→List Int→Option (List Int)
 |[],v1,w1=>
  some w1
 |z1::ls1,v1,w1=>
  br (g.eq v1 a1)
  (
   lP (tX g t a2 0) fun x1=>
   lP ([x1]) fun(l2:List Int)=>
   gd (((w1.length+l2.length)*8≤70368744177664))<|
   lP (w1++l2) fun(l3:List Int)=>
   cT g t a1 a2 ls1 (g.wrap .i64 (g.add v1 1)) l3)
  (
   lP ([(-1)]) fun(l4:List Int)=>
   gd (((w1.length+l4.length)*8≤70368744177664))<|
   lP (w1++l4) fun(l5:List Int)=>
   cT g t a1 a2 ls1 (g.wrap .i64 (g.add v1 1)) l5)
def ko (g:G) (t:TE) (a0:List ByteArray) (a1:Int) (a2:Int):Option (List Int):=
 lP ([]) fun(l1:List Int)=>
 cl (cT g t a1 a2 a0 0 l1) fun y1=>
 some y1
theorem wx {g:G} {t:TE} {a0:List ByteArray} {a1:Int} {a2:Int} {r:List Int} (hg:g=G.real) (ht:t=TE.real) (h:ko g t a0 a1 a2=some r):Fn Tryz.prog 114 [.c (.s 1 (t.r_S a0)),.c (.v (.int .i64 a1)),.c (.v (.int .i64 a2))] (.c (.o 1 (t.d_I64 r))):=by
 obtain⟨X,hX⟩:=aC (.c (.o 1 (t.d_I64 r)):X);rw[←hX];refine aA (rvs:=Gv) (j:=Hk) Tryz.func114 rfl (by kernel_rfl) (nb rfl) (by kernel_rfl) af ?_;intro g2 F hg2 hF;obtain rfl:g2=g:=hg2.unique.trans hg.symm;clear hg2;obtain⟨wrap,lt,_,eq,_,_,_,_,_,_,_,_,_,add,_,_,_,_,_,_,_,llen,_,_,dlen⟩:=g2;obtain⟨_,_,_,_,_,_,_,d_I64,_,_,_,_,r_S⟩:=t
 unfold ko at h;try dsimp only at h
 cbv;obtain⟨l1,hl1,h⟩:=ah h;try dsimp only at h
 refine ANew.mk (d_I64 l1) (dlen (d_I64 l1)) (by rw[←hl1];exact cS hg ht []) (by rw[←hl1];exact co hg ht []) ?_;cbv;obtain⟨o1,ho1,h⟩:=ae h;try dsimp only at h
 try rw[hg] at ho1
 try rw[ht] at ho1
 refine ABL.mk {p:Nat×Int×List Int//p.1≤a0.length∧p.2.1=((p.1:Nat):Int)∧cT G.real TE.real a1 a2 (List.drop p.1 a0) p.2.1 p.2.2=some o1} (fun⟨⟨k1,v1,w1⟩,_⟩=>({sl:=[(0,.c (.r (.s 1 (r_S a0)))),(1,.c (.r (.v (.int .i64 a1)))),(2,.c (.r (.v (.int .i64 a2)))),(7,.c (.f 0 1 0 (dlen (d_I64 w1)))),(8,.c (.r (.v (.int .i64 v1))))],tab:=[(0,some (.arr 1 (d_I64 w1)))]}:St)) 1 (fun p=>a0.length-p.1.1) ⟨(0,0,l1),Nat.zero_le _,rfl,ho1⟩ (List Int) (fun y1=>({sl:=[(7,.c (.f 0 1 0 (dlen (d_I64 y1))))],tab:=[(0,some (.arr 1 (d_I64 y1)))]}:St)) 1 (fun y=>o1=y) ?_ ?_ ?_
 ·refine Wk.of [(0,some 16)] rfl rfl ?_ ?_
  ·cbv;all_goals exact⟨⟨_,rfl,rfl⟩,⟨_,rfl,rfl⟩,⟨_,rfl,rfl⟩,⟨_,rfl,rfl⟩,⟨_,rfl,rfl⟩,trivial⟩
  cbv;all_goals exact⟨⟨_,rfl,rfl⟩,trivial⟩
 ·rintro⟨⟨k1,v1,w1⟩,hk1,hi1,h_1⟩ hq1;have hm1:=(hq1.1 0 _ _ rfl);try dsimp only at hk1 hi1 h_1
  clear hq1;cbv
  by_cases hc1_:k1<a0.length
  ·have hb1:lt v1 (llen (r_S a0))=true:=mX hg ht hi1 hc1_;have hs1:=uJ hg ht hi1 hc1_ hm1;obtain⟨z1,hz1⟩:=aX hc1_;rw[aH hz1] at h_1;rw[cT] at h_1;try rw[←hg] at h_1
   try rw[←ht] at h_1
   try dsimp only at h_1
   rw[hb1];cbv
   cases hb2:(eq v1 a1)
   ·rw[aa hb2] at h_1;cbv;obtain⟨l4,hl4,h_1⟩:=ah h_1;try dsimp only at h_1
    refine ANew.mk (d_I64 l4) (dlen (d_I64 l4)) (by rw[←hl4];exact cS hg ht [(-1)]) (by rw[←hl4];exact co hg ht [(-1)]) ?_;cbv;obtain⟨hc2,h_1⟩:=ak h_1;refine AStep.mk ⟨⟨rfl,(al hg ht _)⟩,(fM hg ht (al hg ht _) rfl hc2)⟩ ?_;cbv;obtain⟨l5,hl5,h_1⟩:=ah h_1;try dsimp only at h_1
    refine ANew.mk (d_I64 l5) (dlen (d_I64 l5)) (by rw[←hl5];exact kN hg ht (al hg ht _) rfl) (by rw[←hl5];exact je hg ht (al hg ht _) rfl) ?_;cbv;try rw[hg] at h_1
    try rw[ht] at h_1
    refine⟨⟨(k1+1,(wrap .i64 (add v1 1)),l5),hc1_,hs1,h_1⟩,Wk.of [(0,some 145)] rfl rfl ?_ ?_,bc hc1_⟩
    ·cbv;all_goals exact⟨⟨_,rfl,rfl⟩,⟨_,rfl,rfl⟩,⟨_,rfl,rfl⟩,⟨_,rfl,rfl⟩,⟨_,rfl,rfl⟩,trivial⟩
    cbv;all_goals exact⟨⟨_,rfl,rfl⟩,trivial⟩
   rw[ab hb2] at h_1;cbv;obtain⟨x1,hx1,h_1⟩:=ah h_1;try dsimp only at h_1
   refine ACall.mk _ _ rfl (hF _ _ _ (zC hg ht hx1)) (.inl rfl) (nb rfl) ?_;cbv;obtain⟨l2,hl2,h_1⟩:=ah h_1;try dsimp only at h_1
   refine ANew.mk (d_I64 l2) (dlen (d_I64 l2)) (by rw[←hl2];exact cS hg ht [x1]) (by rw[←hl2];exact co hg ht [x1]) ?_;cbv;obtain⟨hc1,h_1⟩:=ak h_1;refine AStep.mk ⟨⟨rfl,(al hg ht _)⟩,(fM hg ht (al hg ht _) rfl hc1)⟩ ?_;cbv;obtain⟨l3,hl3,h_1⟩:=ah h_1;try dsimp only at h_1
   refine ANew.mk (d_I64 l3) (dlen (d_I64 l3)) (by rw[←hl3];exact kN hg ht (al hg ht _) rfl) (by rw[←hl3];exact je hg ht (al hg ht _) rfl) ?_;cbv;try rw[hg] at h_1
   try rw[ht] at h_1
   refine⟨⟨(k1+1,(wrap .i64 (add v1 1)),l3),hc1_,hs1,h_1⟩,Wk.of [(0,some 177)] rfl rfl ?_ ?_,bc hc1_⟩
   ·cbv;all_goals exact⟨⟨_,rfl,rfl⟩,⟨_,rfl,rfl⟩,⟨_,rfl,rfl⟩,⟨_,rfl,rfl⟩,⟨_,rfl,rfl⟩,trivial⟩
   cbv;all_goals exact⟨⟨_,rfl,rfl⟩,trivial⟩
  have hb1:lt v1 (llen (r_S a0))=false:=lh hg ht hi1 hc1_;rw[List.drop_of_length_le (Nat.le_of_not_lt hc1_)] at h_1;rw[cT] at h_1;try rw[←hg] at h_1
  try rw[←ht] at h_1
  try dsimp only at h_1
  rw[hb1];cbv;refine⟨w1,Wk.of [(0,some 0)] rfl rfl ?_ ?_,(Option.some.inj h_1).symm⟩
  ·cbv;all_goals exact⟨⟨_,rfl,rfl⟩,trivial⟩
  cbv;all_goals exact⟨⟨_,rfl,rfl⟩,trivial⟩
 rintro y1 hy1;replace hy1:=hy1.symm;subst hy1;try dsimp only[lr,lrL,lrp,aZ] at h
 cbv;obtain rfl:=Option.some.inj h;exact ARet.mk ⟨rfl,(al hg ht _)⟩ hX.symm
def HO:J:=js [jq 2 (.box 0),jq 3 (.box 1),jm 4 (ki 0)] [2,3] (.seq (.reg (some [[],[0],[0,1],[],[3],[],[5],[3,4,5,6],[3,4,5,6,7],[3,4,5,6,7,8],[0,1,2,3,4,5,6,7,8,9],[0,1,2,3,4,5,6,7,8,9,10]]) [jf 5 1 3,jk 6 5,jb 7 .mul .i 6 (ki 1440),jf 8 0 2,jk 9 8,jf 10 0 3,jk 11 10,ja 12 6 9 11,jf 13 2 12,jk 14 13,jb 15 .add .i 7 14,jm 4 15] [4]) .ret)
def GW:List RV:=[.t 4]
def cM (g:G) (t:TE) (a0:Network) (a1:Trip):Option Int:=
 gd (((0:Int)≤a1.Leg))<|
 gt a0.Legs (g.nat a1.Leg) fun x1=>
 some (g.wrap .i64 (g.add (g.wrap .i64 (g.mul a1.Day 1440)) x1.Start))
theorem fj {g:G} {t:TE} {a0:Network} {a1:Trip} {r:Int} (hg:g=G.real) (ht:t=TE.real) (h:cM g t a0 a1=some r):Fn Tryz.prog 120 [.g (Network.rs t a0),.g (Trip.rs t a1)] (.c (.r (.v (.int .i64 r)))):=by
 obtain⟨X,hX⟩:=aC (.c (.r (.v (.int .i64 r))):X);rw[←hX];refine aA (rvs:=GW) (j:=HO) Tryz.func120 rfl (by kernel_rfl) (nb rfl) (by kernel_rfl) af ?_;intro g2 F hg2 hF;obtain rfl:g2=g:=hg2.unique.trans hg.symm;clear hg2;obtain⟨_⟩:=g2;obtain⟨_⟩:=t
 obtain⟨a0_Legs,a0_Off,a0_Change⟩:=a0;obtain⟨a1_Leg,a1_Day⟩:=a1;unfold cM at h;try dsimp only at h
 cbv;obtain⟨hc1,h⟩:=ak h;refine AStep.mk hc1 ?_;cbv;obtain⟨x1,hx1,h⟩:=aE h;obtain⟨x1_From,x1_To,x1_Start,x1_Takes,x1_Days,x1_Room⟩:=x1;try dsimp only at h
 refine AGet.mk _ (bk hg ht hx1) ?_;cbv;obtain rfl:=Option.some.inj h;exact ARet.mk trivial hX.symm
def Gh:J:=js [jm 4 kf] [0,1] (.seq (js [jm 5 (ki 0)] [0,1,5] (.bl 0 (.seq (js [jm 6 5,jm 7 0,jq 8 (.len false 7),jb 9 .lss .i 6 8] [0,1,5,9] (.cond 9 .skip (.exit 0))) (.seq (.block 1 (js [jm 12 0,jm 13 5,ja 14 1 12 13,jk 15 14,jm 16 1,jb 17 .eql .i 15 16] [0,1,5,17] (.cond 17 (js [jm 4 kt] [4] .ret) .skip))) (.reg none [jm 10 5,jb 11 .add .i 10 (ki 1),jm 5 11] [0,1,5]))))) (js [jm 4 kf] [4] .ret))
def F9:List RV:=[.t 4]
def eM (g:G) (t:TE) (a1:Int):List Int→LR Bool Unit
 |[]=>
  (LR.out ())
 |z1::ls1=>
  br (g.eq z1 a1)
  (
   (LR.ret true))
  (
   eM g t a1 ls1)
def qD (g:G) (t:TE) (a0:List Int) (a1:Int):Bool:=
 lP (eM g t a1 a0) fun o1=>lrp o1 fun y1=>
 false
theorem Bv {g:G} {t:TE} {a0:List Int} {a1:Int} {r:Bool} (hg:g=G.real) (ht:t=TE.real) (h:qD g t a0 a1=r):Fn Tryz.prog 178 [.c (.s 1 (t.r_I64 a0)),.c (.v (.int .i64 a1))] (.c (.r (.v (.bool r)))):=by
 obtain⟨X,hX⟩:=aC (.c (.r (.v (.bool r))):X);rw[←hX];refine aA (rvs:=F9) (j:=Gh) Tryz.func178 rfl (by kernel_rfl) (nb rfl) (by kernel_rfl) af ?_;intro g2 F hg2 hF;obtain rfl:g2=g:=hg2.unique.trans hg.symm;clear hg2;obtain⟨wrap,lt,_,eq,_,_,_,_,_,_,_,_,_,add,_,_,_,_,_,_,_,llen⟩:=g2;obtain⟨_,_,_,_,_,_,r_I64⟩:=t
 unfold qD at h;try dsimp only at h
 cbv;obtain⟨o1,ho1,h⟩:=ah h;try dsimp only at h
 try rw[hg] at ho1
 try rw[ht] at ho1
 refine ABL.mk {p:Nat×Int//p.1≤a0.length∧p.2=((p.1:Nat):Int)∧eM G.real TE.real a1 (List.drop p.1 a0)=o1} (fun⟨⟨k1,v1⟩,_⟩=>({sl:=[(0,.c (.r (.s 1 (r_I64 a0)))),(1,.c (.r (.v (.int .i64 a1)))),(5,.c (.r (.v (.int .i64 v1))))],tab:=[]}:St)) 0 (fun p=>a0.length-p.1.1) ⟨(0,0),Nat.zero_le _,rfl,ho1⟩ (Unit) (fun _=>({sl:=[],tab:=[]}:St)) 0 (fun y=>o1=LR.out y) ?_ ?_ ?_
 ·refine Wk.of [] rfl rfl ?_ ?_
  ·cbv;all_goals exact⟨⟨_,rfl,rfl⟩,⟨_,rfl,rfl⟩,⟨_,rfl,rfl⟩,trivial⟩
  cbv;all_goals exact trivial
 ·rintro⟨⟨k1,v1⟩,hk1,hi1,h_1⟩ hq1;have hm1:=(hq1.1 0 _ _ rfl);try dsimp only at hk1 hi1 h_1
  clear hq1;cbv
  by_cases hc1_:k1<a0.length
  ·have hb1:lt v1 (llen (r_I64 a0))=true:=e8 hg ht hi1 hc1_;have hs1:=iM hg ht hi1 hc1_ hm1;obtain⟨z1,hz1⟩:=aX hc1_;rw[aH hz1] at h_1;rw[eM] at h_1;try rw[←hg] at h_1
   try rw[←ht] at h_1
   try dsimp only at h_1
   rw[hb1];cbv;refine AStep.mk (fP hi1) ?_;cbv;refine AGet.mk _ (fT hg ht hi1 hz1) ?_;cbv
   cases hb2:(eq z1 a1)
   rotate_left
   ·rw[ab hb2] at h_1;cbv;subst h_1;try dsimp only[lr,lrL,lrp,aZ] at h
    subst h;exact ARet.mk trivial hX.symm
   rw[aa hb2] at h_1;cbv;try rw[hg] at h_1
   try rw[ht] at h_1
   refine⟨⟨(k1+1,(wrap .i64 (add v1 1))),hc1_,hs1,h_1⟩,Wk.of [] rfl rfl ?_ ?_,bc hc1_⟩
   ·cbv;all_goals exact⟨⟨_,rfl,rfl⟩,⟨_,rfl,rfl⟩,⟨_,rfl,rfl⟩,trivial⟩
   cbv;all_goals exact trivial
  have hb1:lt v1 (llen (r_I64 a0))=false:=eE hg ht hi1 hc1_;rw[List.drop_of_length_le (Nat.le_of_not_lt hc1_)] at h_1;rw[eM] at h_1;try rw[←hg] at h_1
  try rw[←ht] at h_1
  try dsimp only at h_1
  rw[hb1];cbv;refine⟨(),Wk.of [] rfl rfl ?_ ?_,h_1.symm⟩
  ·cbv;all_goals exact trivial
  cbv;all_goals exact trivial
 rintro _ hy1;replace hy1:=hy1.symm;subst hy1;try dsimp only[lr,lrL,lrp,aZ] at h
 cbv;subst h;exact ARet.mk trivial hX.symm
def Hm:J:=js [jq 3 (.box 0),jm 6 kf] [1,2,3] (js [jm 7 1,jf 8 0 3,jk 9 8,jq 10 (.len false 9),jb 11 .sub .i 10 (ki 1),jc 12 141 [7,(ki 0),11],jm 13 12,ju 14 13 (.mv 2),ju 15 13 (.call 141 true [14,(ki 0),(ki 60)]),jq 16 (.pick 13 15 kf),jm 17 16,ju 18 17 (.fa 0 3),ju 19 17 (.ld false 1 18),ju 20 17 (.mv 1),ju 21 17 (.ia 6 19 20),ju 22 17 (.fa 4 21),ju 23 17 (.ld false 1 22),ju 24 17 (.mv 2),ju 25 17 (.bin .rem .i 24 (ki 7)),ju 26 17 (.bin .shr .i 23 25),ju 27 17 (.bin .and .i 26 (ki 1)),ju 28 17 (.bin .eql .i 27 (ki 1)),jq 29 (.pick 17 28 kf),jm 30 29,ju 31 30 (.fa 1 3),ju 32 30 (.ld false 1 31),ju 33 30 (.mv 2),ju 34 30 (.call 178 true [32,33]),ju 35 30 (.not 34),jq 36 (.pick 30 35 kf),jm 6 36] [6] .ret)
def Ga:List RV:=[.t 6]
def ig (g:G) (t:TE) (a0:Network) (a1:Int) (a2:Int):Option Bool:=
 lP (fO g t a1 0 (g.wrap .i64 (g.sub (g.llen (t.r_Leg a0.Legs)) 1))) fun x1=>
 br x1
 (
  lP (fO g t a2 0 60) fun x2=>
  br x2
  (
   gd (((0:Int)≤a1))<|
   gt a0.Legs (g.nat a1) fun x3=>
   gd (((0:Int)≤(g.rem a2 7)))<|
   br (g.eq (g.band .i64 (g.shr .i64 x3.Days (g.rem a2 7)) 1) 1)
   (
    lP (qD g t a0.Off a2) fun x4=>
    some (!x4))
   (
    some false))
  (
   some false))
 (
  some false)
theorem rX {g:G} {t:TE} {a0:Network} {a1:Int} {a2:Int} {r:Bool} (hg:g=G.real) (ht:t=TE.real) (h:ig g t a0 a1 a2=some r):Fn Tryz.prog 153 [.g (Network.rs t a0),.c (.v (.int .i64 a1)),.c (.v (.int .i64 a2))] (.c (.r (.v (.bool r)))):=by
 obtain⟨X,hX⟩:=aC (.c (.r (.v (.bool r))):X);rw[←hX];refine aA (rvs:=Ga) (j:=Hm) Tryz.func153 rfl (by kernel_rfl) (nb rfl) (by kernel_rfl) af ?_;intro g2 F hg2 hF;obtain rfl:g2=g:=hg2.unique.trans hg.symm;clear hg2;obtain⟨_,_,_,eq,_,rem,band,_,_,_,shr⟩:=g2;obtain⟨_⟩:=t
 obtain⟨a0_Legs,a0_Off,a0_Change⟩:=a0;unfold ig at h;try dsimp only at h
 cbv;obtain⟨x1,hx1,h⟩:=ah h;try dsimp only at h
 refine ACall.mk _ _ rfl (hF _ _ _ (eS hg ht hx1)) (.inl rfl) (nb rfl) ?_;cbv
 cases hb1:x1
 ·rw[aa hb1] at h;cbv;iterate 2 try(rw[hb1];cbv)
  obtain rfl:=Option.some.inj h;exact ARet.mk trivial hX.symm
 rw[ab hb1] at h;cbv;try(rw[hb1];cbv)
 obtain⟨x2,hx2,h⟩:=ah h;try dsimp only at h
 refine ACall.mk _ _ rfl (hF _ _ _ (eS hg ht hx2)) (.inl rfl) (nb rfl) ?_;cbv;try(rw[hb1];cbv)
 cases hb2:x2
 ·rw[aa hb2] at h;cbv;iterate 11 try(rw[hb2];cbv)
  obtain rfl:=Option.some.inj h;exact ARet.mk trivial hX.symm
 rw[ab hb2] at h;cbv;iterate 3 try(rw[hb2];cbv)
 obtain⟨hc1,h⟩:=ak h;refine AStep.mk hc1 ?_;cbv;obtain⟨x3,hx3,h⟩:=aE h;obtain⟨x3_From,x3_To,x3_Start,x3_Takes,x3_Days,x3_Room⟩:=x3;try dsimp only at h
 refine AGet.mk _ (bk hg ht hx3) ?_;cbv;iterate 4 try(rw[hb2];cbv)
 refine AStep.mk (by decide) ?_;cbv;try(rw[hb2];cbv)
 obtain⟨hc2,h⟩:=ak h;refine AStep.mk hc2 ?_;cbv;iterate 3 try(rw[hb2];cbv)
 cases hb3:(eq (band .i64 (shr .i64 x3_Days (rem a2 7)) 1) 1)
 ·rw[aa hb3] at h;cbv;iterate 5 try(rw[hb3];cbv)
  obtain rfl:=Option.some.inj h;exact ARet.mk trivial hX.symm
 rw[ab hb3] at h;cbv;iterate 3 try(rw[hb3];cbv)
 obtain⟨x4,hx4,h⟩:=ah h;try dsimp only at h
 refine ACall.mk _ _ rfl (hF _ _ _ (Bv hg ht hx4)) (.inl rfl) (nb rfl) ?_;cbv;iterate 2 try(rw[hb3];cbv)
 obtain rfl:=Option.some.inj h;exact ARet.mk trivial hX.symm
def HF:J:=js [jq 3 (.box 0),jm 6 (ki 0)] [1,2,3] (.seq (js [jm 7 (ki 0)] [1,2,3,7] (.bl 0 (.seq (js [jm 8 7,jb 9 .leq .i 8 (ki 60)] [1,2,3,7,9] (.cond 9 .skip (.exit 0))) (.seq (.block 1 (js [jl 12 3 3,jm 13 1,jm 14 7,jc 15 153 [12,13,14],jm 16 15,ju 17 16 (.ld true 3 3),ju 18 16 (.mv 1),ju 19 16 (.mv 7),ju 20 16 (.bld [.r (.v (.int .i64 0)),.r (.v (.int .i64 0))] [(0,1,18),(1,1,19)]),ju 21 16 (.call 120 true [17,20]),ju 22 16 (.mv 2),ju 23 16 (.bin .geq .i 21 22),jq 24 (.pick 16 23 kf)] [1,2,3,7,24] (.cond 24 (js [jm 25 7,jm 6 25] [6] .ret) .skip))) (.reg none [jm 10 7,jb 11 .add .i 10 (ki 1),jm 7 11] [1,2,3,7]))))) (js [jq 6 (.mv (.k (V.i (-1))))] [6] .ret))
def G1:List RV:=[.t 6]
def ci (g:G) (t:TE) (a0:Network) (a1:Int) (a2:Int):Nat→Int→Option (LR Int Unit)
 |0,v1=>
  some (LR.out ())
 |n1+1,v1=>
  cl (ig g t a0 a1 v1) fun x1=>
  br x1
  (
   cl (cM g t a0 (Trip.mk a1 v1)) fun x2=>
   br (g.le a2 x2)
   (
    some (LR.ret v1))
   (
    ci g t a0 a1 a2 n1 (g.wrap .i64 (g.add v1 1))))
  (
   ci g t a0 a1 a2 n1 (g.wrap .i64 (g.add v1 1)))
def fD (g:G) (t:TE) (a0:Network) (a1:Int) (a2:Int):Option Int:=
 cl (ci g t a0 a1 a2 (eK 0 60) 0) fun o1=>lr o1 fun y1=>
 some (-1)
theorem mO {g:G} {t:TE} {a0:Network} {a1:Int} {a2:Int} {r:Int} (hg:g=G.real) (ht:t=TE.real) (h:fD g t a0 a1 a2=some r):Fn Tryz.prog 116 [.g (Network.rs t a0),.c (.v (.int .i64 a1)),.c (.v (.int .i64 a2))] (.c (.r (.v (.int .i64 r)))):=by
 obtain⟨X,hX⟩:=aC (.c (.r (.v (.int .i64 r))):X);rw[←hX];refine aA (rvs:=G1) (j:=HF) Tryz.func116 rfl (by kernel_rfl) (nb rfl) (by kernel_rfl) af ?_;intro g2 F hg2 hF;obtain rfl:g2=g:=hg2.unique.trans hg.symm;clear hg2;obtain⟨wrap,_,le,_,_,_,_,_,_,_,_,_,_,add⟩:=g2;obtain⟨_,_,_,_,r_Leg,_,r_I64⟩:=t
 obtain⟨a0_Legs,a0_Off,a0_Change⟩:=a0;unfold fD at h;try dsimp only at h
 cbv;obtain⟨o1,ho1,h⟩:=ae h;try dsimp only at h
 try rw[hg] at ho1
 try rw[ht] at ho1
 refine ABL.mk {p:Nat×Int//p.1=eK p.2 60∧0≤p.2∧ci G.real TE.real (Network.mk a0_Legs a0_Off a0_Change) a1 a2 p.1 p.2=some o1} (fun⟨⟨n1,v1⟩,_⟩=>({sl:=[(1,.c (.r (.v (.int .i64 a1)))),(2,.c (.r (.v (.int .i64 a2)))),(3,.c (.p 0 3 0 0)),(7,.c (.r (.v (.int .i64 v1))))],tab:=[(0,some (.foc 3 [] [.r (.s 6 (r_Leg a0_Legs)),.r (.s 1 (r_I64 a0_Off)),.r (.v (.int .i64 a0_Change))] []))]}:St)) 1 (fun p=>p.1.1) ⟨(eK 0 60,0),rfl,Int.le_refl _,ho1⟩ (Unit) (fun _=>({sl:=[],tab:=[]}:St)) 0 (fun y=>o1=LR.out y) ?_ ?_ ?_
 ·refine Wk.of [(0,some 0)] rfl rfl ?_ ?_
  ·cbv;all_goals exact⟨⟨_,rfl,rfl⟩,⟨_,rfl,rfl⟩,⟨_,rfl,rfl⟩,⟨_,rfl,rfl⟩,trivial⟩
  cbv;all_goals exact⟨⟨_,rfl,_,rfl,rfl,rfl,rfl,trivial⟩,trivial⟩
 ·rintro⟨⟨n1,v1⟩,hn1,hi1,h_1⟩ hq1;try dsimp only at hn1 hi1 h_1
  clear hq1;cbv;rcases n1 with _|n1
  ·have hb1:le v1 60=false:=oR hg hn1;rw[ci] at h_1;try rw[←hg] at h_1
   try rw[←ht] at h_1
   try dsimp only at h_1
   rw[hb1];cbv;refine⟨(),Wk.of [] rfl rfl ?_ ?_,(Option.some.inj h_1).symm⟩
   ·cbv;all_goals exact trivial
   cbv;all_goals exact trivial
  have hb1:le v1 60=true:=sB hg hn1;have hl1:=yR hn1;have hs1:=uE hg hn1 hi1 (by decide) (by decide);rw[ci] at h_1;try rw[←hg] at h_1
  try rw[←ht] at h_1
  try dsimp only at h_1
  rw[hb1];cbv;obtain⟨x1,hx1,h_1⟩:=ae h_1;try dsimp only at h_1
  refine ACall.mk _ _ rfl (hF _ _ _ (rX hg ht hx1)) (.inl rfl) (nb rfl) ?_;cbv
  cases hb2:x1
  ·rw[aa hb2] at h_1;cbv;iterate 7 try(rw[hb2];cbv)
   try rw[hg] at h_1
   try rw[ht] at h_1
   refine⟨⟨(n1,(wrap .i64 (add v1 1))),hs1.1,hs1.2,h_1⟩,Wk.of [(0,some 0)] rfl rfl ?_ ?_,Nat.lt_succ_self _⟩
   ·cbv;all_goals exact⟨⟨_,rfl,rfl⟩,⟨_,rfl,rfl⟩,⟨_,rfl,rfl⟩,⟨_,rfl,rfl⟩,trivial⟩
   cbv;all_goals exact⟨⟨_,rfl,_,rfl,rfl,rfl,rfl,trivial⟩,trivial⟩
  rw[ab hb2] at h_1;cbv;iterate 4 try(rw[hb2];cbv)
  obtain⟨x2,hx2,h_1⟩:=ae h_1;try dsimp only at h_1
  refine ACall.mk _ _ rfl (hF _ _ _ (fj hg ht hx2)) (.inl rfl) (nb rfl) ?_;cbv;iterate 3 try(rw[hb2];cbv)
  cases hb3:(le a2 x2)
  rotate_left
  ·rw[ab hb3] at h_1;cbv;obtain rfl:=Option.some.inj h_1;try dsimp only[lr,lrL,lrp,aZ] at h
   obtain rfl:=Option.some.inj h;exact ARet.mk trivial hX.symm
  rw[aa hb3] at h_1;cbv;try rw[hg] at h_1
  try rw[ht] at h_1
  refine⟨⟨(n1,(wrap .i64 (add v1 1))),hs1.1,hs1.2,h_1⟩,Wk.of [(0,some 0)] rfl rfl ?_ ?_,Nat.lt_succ_self _⟩
  ·cbv;all_goals exact⟨⟨_,rfl,rfl⟩,⟨_,rfl,rfl⟩,⟨_,rfl,rfl⟩,⟨_,rfl,rfl⟩,trivial⟩
  cbv;all_goals exact⟨⟨_,rfl,_,rfl,rfl,rfl,rfl,trivial⟩,trivial⟩
 rintro _ hy1;replace hy1:=hy1.symm;subst hy1;try dsimp only[lr,lrL,lrp,aZ] at h
 cbv;obtain rfl:=Option.some.inj h;exact ARet.mk trivial hX.symm
def Hp:J:=js [jq 3 (.box 0),jm 6 (ki 0)] [1,2,3] (.seq (js [jm 7 2] [1,3,7] (.cond 7 (js [jm 8 1,jm 6 8] [6] .ret) .skip)) (js [jm 9 1,jf 10 2 3,jk 11 10,jb 12 .add .i 9 11,jm 6 12] [6] .ret))
def Hq:List RV:=[.t 6]
def fV (g:G) (t:TE) (a0:Network) (a1:Int) (a2:Bool):Int:=
 br a2
 (
  a1)
 (
  (g.wrap .i64 (g.add a1 a0.Change)))
theorem pT {g:G} {t:TE} {a0:Network} {a1:Int} {a2:Bool} {r:Int} (hg:g=G.real) (ht:t=TE.real) (h:fV g t a0 a1 a2=r):Fn Tryz.prog 117 [.g (Network.rs t a0),.c (.v (.int .i64 a1)),.c (.v (.bool a2))] (.c (.r (.v (.int .i64 r)))):=by
 obtain⟨X,hX⟩:=aC (.c (.r (.v (.int .i64 r))):X);rw[←hX];refine aA (rvs:=Hq) (j:=Hp) Tryz.func117 rfl (by kernel_rfl) (nb rfl) (by kernel_rfl) af ?_;intro g2 F hg2 hF;obtain rfl:g2=g:=hg2.unique.trans hg.symm;clear hg2;obtain⟨_⟩:=g2;obtain⟨_⟩:=t
 obtain⟨a0_Legs,a0_Off,a0_Change⟩:=a0;unfold fV at h;try dsimp only at h
 cbv
 cases hb1:a2
 rotate_left
 ·rw[ab hb1] at h;cbv;subst h;exact ARet.mk trivial hX.symm
 rw[aa hb1] at h;cbv;subst h;exact ARet.mk trivial hX.symm
def Hl:J:=js [jq 2 (.box 0),jq 3 (.box 1),jm 4 (ki 0)] [2,3] (.seq (.reg (some [[],[],[0,1],[],[3],[],[5],[3,4,5,6],[3,4,5,6,7],[3,4,5,6,7,8],[0,1,2,3,4,5,6,7,8,9],[0,1,2,3,4,5,6,7,8,9,10]]) [jl 5 3 2,jl 6 2 3,jc 7 120 [5,6],jf 8 0 2,jk 9 8,jf 10 0 3,jk 11 10,ja 12 6 9 11,jf 13 3 12,jk 14 13,jb 15 .add .i 7 14,jm 4 15] [4]) .ret)
def Gs:List RV:=[.t 4]
def eC (g:G) (t:TE) (a0:Network) (a1:Trip):Option Int:=
 cl (cM g t a0 a1) fun x1=>
 gd (((0:Int)≤a1.Leg))<|
 gt a0.Legs (g.nat a1.Leg) fun x2=>
 some (g.wrap .i64 (g.add x1 x2.Takes))
theorem gU {g:G} {t:TE} {a0:Network} {a1:Trip} {r:Int} (hg:g=G.real) (ht:t=TE.real) (h:eC g t a0 a1=some r):Fn Tryz.prog 118 [.g (Network.rs t a0),.g (Trip.rs t a1)] (.c (.r (.v (.int .i64 r)))):=by
 obtain⟨X,hX⟩:=aC (.c (.r (.v (.int .i64 r))):X);rw[←hX];refine aA (rvs:=Gs) (j:=Hl) Tryz.func118 rfl (by kernel_rfl) (nb rfl) (by kernel_rfl) af ?_;intro g2 F hg2 hF;obtain rfl:g2=g:=hg2.unique.trans hg.symm;clear hg2;obtain⟨_⟩:=g2;obtain⟨_⟩:=t
 obtain⟨a0_Legs,a0_Off,a0_Change⟩:=a0;obtain⟨a1_Leg,a1_Day⟩:=a1;unfold eC at h;try dsimp only at h
 cbv;obtain⟨x1,hx1,h⟩:=ae h;try dsimp only at h
 refine ACall.mk _ _ rfl (hF _ _ _ (fj hg ht hx1)) (.inl rfl) (nb rfl) ?_;cbv;obtain⟨hc1,h⟩:=ak h;refine AStep.mk hc1 ?_;cbv;obtain⟨x2,hx2,h⟩:=aE h;obtain⟨x2_From,x2_To,x2_Start,x2_Takes,x2_Days,x2_Room⟩:=x2;try dsimp only at h
 refine AGet.mk _ (bk hg ht hx2) ?_;cbv;obtain rfl:=Option.some.inj h;exact ARet.mk trivial hX.symm
def GE:J:=js [jq 2 (.mv (.k (.c (.n 1))))] [0] (js [jq 3 (.bsl 1 []),jm 4 0,jq 5 (.app 1 8 false 3 4),jm 2 5] [2] .ret)
def Ht:List RV:=[.t 2]
def nZ (g:G) (t:TE) (a0:List Int):Option (List Int):=
 lP ([]) fun(l1:List Int)=>
 gd (((l1.length+a0.length)*8≤70368744177664))<|
 lP (l1++a0) fun(l2:List Int)=>
 some l2
theorem zb {g:G} {t:TE} {a0:List Int} {r:List Int} (hg:g=G.real) (ht:t=TE.real) (h:nZ g t a0=some r):Fn Tryz.prog 152 [.c (.s 1 (t.r_I64 a0))] (.c (.o 1 (t.d_I64 r))):=by
 obtain⟨X,hX⟩:=aC (.c (.o 1 (t.d_I64 r)):X);rw[←hX];refine aA (rvs:=Ht) (j:=GE) Tryz.func152 rfl (by kernel_rfl) (nb rfl) (by kernel_rfl) af ?_;intro g2 F hg2 hF;obtain rfl:g2=g:=hg2.unique.trans hg.symm;clear hg2;obtain⟨_,_,_,_,_,_,_,_,_,_,_,_,_,_,_,_,_,_,_,_,_,_,_,_,dlen⟩:=g2;obtain⟨_,_,_,_,_,_,_,d_I64⟩:=t
 unfold nZ at h;try dsimp only at h
 cbv;obtain⟨l1,hl1,h⟩:=ah h;try dsimp only at h
 refine ANew.mk (d_I64 l1) (dlen (d_I64 l1)) (by rw[←hl1];exact cS hg ht []) (by rw[←hl1];exact co hg ht []) ?_;cbv;obtain⟨hc1,h⟩:=ak h;refine AStep.mk (fM hg ht (al hg ht _) (ye hg ht _) hc1) ?_;cbv;obtain⟨l2,hl2,h⟩:=ah h;try dsimp only at h
 refine ANew.mk (d_I64 l2) (dlen (d_I64 l2)) (by rw[←hl2];exact kN hg ht (al hg ht _) (ye hg ht _)) (by rw[←hl2];exact je hg ht (al hg ht _) (ye hg ht _)) ?_;cbv;obtain rfl:=Option.some.inj h;exact ARet.mk ⟨rfl,(al hg ht _)⟩ hX.symm
def G0:J:=js [jq 4 (.box 0),jq 8 (.mv (.k (.c (.n 1))))] [1,2,3,4] (js [jm 15 2,jc 16 152 [15],jm 9 16] [1,2,3,4,9] (.seq (js [jm 10 (ki 0)] [1,2,3,4,9,10] (.bl 0 (.seq (js [jm 17 10,jf 18 0 4,jk 19 18,jq 20 (.len false 19),jb 21 .lss .i 17 20] [1,2,3,4,9,10,21] (.cond 21 .skip (.exit 0))) (.seq (.block 1 (js [jm 24 1,jf 25 0 4,jk 26 25,jm 27 10,ja 28 6 26 27,jf 29 0 28,jk 30 29,jc 31 59 [24,30],jm 11 31] [1,2,3,4,9,10,11] (js [jm 32 1,jf 33 0 4,jk 34 33,jm 35 10,ja 36 6 34 35,jf 37 1 36,jk 38 37,jc 39 59 [32,38],jm 12 39] [1,2,3,4,9,10,11,12] (.seq (js [jm 40 2,jm 41 11,ja 42 1 40 41,jk 43 42,jb 44 .lss .i 43 (ki 0)] [1,2,3,4,9,10,11,12,44] (.cond 44 (.exit 1) .skip)) (.seq (.reg (some [[],[],[],[],[],[3,4],[3,4,5],[],[],[7,8],[2,3,4,5,6,7,8,9],[0,1,2,3,4,5,6,7,8,9,10],[0,1,2,3,4,5,6,7,8,9,10,11]]) [jl 45 3 4,jm 46 10,jl 47 3 4,jm 48 2,jm 49 11,ja 50 1 48 49,jk 51 50,jm 52 11,jm 53 3,jb 54 .eql .i 52 53,jc 55 117 [47,51,54],jc 56 116 [45,46,55],jm 13 56] [1,2,3,4,9,10,12,13]) (.seq (js [jm 57 13,jb 58 .lss .i 57 (ki 0)] [1,2,3,4,9,10,12,13,58] (.cond 58 (.exit 1) .skip)) (js [jl 59 3 4,jm 60 10,jm 61 13,jq 62 (.bld [.r (.v (.int .i64 0)),.r (.v (.int .i64 0))] [(0,1,60),(1,1,61)]),jc 63 118 [59,62],jm 14 63] [1,2,3,4,9,10,12,14] (js [jm 64 9,jm 65 12,ja 66 1 64 65,jk 67 66,jb 68 .lss .i 67 (ki 0),jm 69 68,jv 70 69 (.mv 14),jv 71 69 (.mv 9),jv 72 69 (.mv 12),jv 73 69 (.ia 1 71 72),jv 74 69 (.ld false 1 73),jv 75 69 (.bin .lss .i 70 74),jq 76 (.pick 69 kt 75)] [1,2,3,4,9,10,12,14,76] (.cond 76 (.reg none [jm 77 9,jm 78 12,jm 79 14,ja 80 1 77 78,jp (.st 1 80 79)] [1,2,3,4,9,10]) .skip))))))))) (.reg none [jm 22 10,jb 23 .add .i 22 (ki 1),jm 10 23] [1,2,3,4,9,10]))))) (js [jm 81 9,jm 8 81] [8] .ret)))
def G6:List RV:=[.t 8]
def bJ (g:G) (t:TE) (a0:Network) (a1:List ByteArray) (a2:List Int) (a3:Int):List Leg→Int→List Int→Option (List Int)
 |[],v1,w1=>
  some w1
 |z1::ls1,v1,w1=>
  lP (cL g t a1 z1.From) fun x2=>
  lP (cL g t a1 z1.To) fun x3=>
  gd (((0:Int)≤x2))<|
  gt a2 (g.nat x2) fun x4=>
  br (g.lt x4 0)
  (
   bJ g t a0 a1 a2 a3 ls1 (g.wrap .i64 (g.add v1 1)) w1)
  (
   gd (((0:Int)≤x2))<|
   lP (fV g t a0 x4 (g.eq x2 a3)) fun x5=>
   cl (fD g t a0 v1 x5) fun x6=>
   br (g.lt x6 0)
   (
    bJ g t a0 a1 a2 a3 ls1 (g.wrap .i64 (g.add v1 1)) w1)
   (
    cl (eC g t a0 (Trip.mk v1 x6)) fun x7=>
    gd (((0:Int)≤x3∧x3<(((g.dlen (t.d_I64 w1)):Nat):Int)))<|
    gt w1 (g.nat x3) fun x8=>
    br (g.lt x8 0)
    (
     gd (((0:Int)≤x3∧x3<(((g.dlen (t.d_I64 w1)):Nat):Int)))<|
     lP (List.set w1 (g.nat x3) x7) fun(l1:List Int)=>
     bJ g t a0 a1 a2 a3 ls1 (g.wrap .i64 (g.add v1 1)) l1)
    (
     gd (((0:Int)≤x3∧x3<(((g.dlen (t.d_I64 w1)):Nat):Int)))<|
     br (g.lt x7 x8)
     (
      gd (((0:Int)≤x3∧x3<(((g.dlen (t.d_I64 w1)):Nat):Int)))<|
      lP (List.set w1 (g.nat x3) x7) fun(l2:List Int)=>
      bJ g t a0 a1 a2 a3 ls1 (g.wrap .i64 (g.add v1 1)) l2)
     (
      bJ g t a0 a1 a2 a3 ls1 (g.wrap .i64 (g.add v1 1)) w1))))
def mq (g:G) (t:TE) (a0:Network) (a1:List ByteArray) (a2:List Int) (a3:Int):Option (List Int):=
 cl (nZ g t a2) fun x1=>
 cl (bJ g t a0 a1 a2 a3 a0.Legs 0 x1) fun y1=>
 some y1
theorem wA {g:G} {t:TE} {a0:Network} {a1:List ByteArray} {a2:List Int} {a3:Int} {r:List Int} (hg:g=G.real) (ht:t=TE.real) (h:mq g t a0 a1 a2 a3=some r):Fn Tryz.prog 115 [.g (Network.rs t a0),.c (.s 1 (t.r_S a1)),.c (.s 1 (t.r_I64 a2)),.c (.v (.int .i64 a3))] (.c (.o 1 (t.d_I64 r))):=by
 obtain⟨X,hX⟩:=aC (.c (.o 1 (t.d_I64 r)):X);rw[←hX];refine aA (rvs:=G6) (j:=G0) Tryz.func115 rfl (by kernel_rfl) (nb rfl) (by kernel_rfl) af ?_;intro g2 F hg2 hF;obtain rfl:g2=g:=hg2.unique.trans hg.symm;clear hg2;obtain⟨wrap,lt,_,_,_,_,_,_,_,_,_,_,_,add,_,_,_,_,_,_,_,llen,_,_,dlen⟩:=g2;obtain⟨_,_,_,_,r_Leg,_,r_I64,d_I64,_,_,_,_,r_S⟩:=t
 obtain⟨a0_Legs,a0_Off,a0_Change⟩:=a0;unfold mq at h;try dsimp only at h
 cbv;obtain⟨x1,hx1,h⟩:=ae h;try dsimp only at h
 refine ACall.mk _ _ rfl (hF _ _ _ (zb hg ht hx1)) (.inl rfl) (nb rfl) ?_;cbv;obtain⟨o1,ho1,h⟩:=ae h;try dsimp only at h
 try rw[hg] at ho1
 try rw[ht] at ho1
 refine ABL.mk {p:Nat×Int×List Int//p.1≤a0_Legs.length∧p.2.1=((p.1:Nat):Int)∧bJ G.real TE.real (Network.mk a0_Legs a0_Off a0_Change) a1 a2 a3 (List.drop p.1 a0_Legs) p.2.1 p.2.2=some o1} (fun⟨⟨k1,v1,w1⟩,_⟩=>({sl:=[(1,.c (.r (.s 1 (r_S a1)))),(2,.c (.r (.s 1 (r_I64 a2)))),(3,.c (.r (.v (.int .i64 a3)))),(4,.c (.p 0 3 0 0)),(9,.c (.f 1 1 0 (dlen (d_I64 w1)))),(10,.c (.r (.v (.int .i64 v1))))],tab:=[(0,some (.foc 3 [] [.r (.s 6 (r_Leg a0_Legs)),.r (.s 1 (r_I64 a0_Off)),.r (.v (.int .i64 a0_Change))] [])),(1,some (.arr 1 (d_I64 w1)))]}:St)) 2 (fun p=>a0_Legs.length-p.1.1) ⟨(0,0,x1),Nat.zero_le _,rfl,ho1⟩ (List Int) (fun y1=>({sl:=[(9,.c (.f 0 1 0 (dlen (d_I64 y1))))],tab:=[(0,some (.arr 1 (d_I64 y1)))]}:St)) 1 (fun y=>o1=y) ?_ ?_ ?_
 ·refine Wk.of [(0,some 0),(1,some 48)] rfl rfl ?_ ?_
  ·cbv;all_goals exact⟨⟨_,rfl,rfl⟩,⟨_,rfl,rfl⟩,⟨_,rfl,rfl⟩,⟨_,rfl,rfl⟩,⟨_,rfl,rfl⟩,⟨_,rfl,rfl⟩,trivial⟩
  cbv;all_goals exact⟨⟨_,rfl,_,rfl,rfl,rfl,rfl,trivial⟩,⟨_,rfl,rfl⟩,trivial⟩
 ·rintro⟨⟨k1,v1,w1⟩,hk1,hi1,h_1⟩ hq1;have hm1:=(hq1.2.2.1 0 _ _ _ _ 0 _ _ rfl rfl);try dsimp only at hk1 hi1 h_1
  clear hq1;cbv
  by_cases hc1_:k1<a0_Legs.length
  ·have hb1:lt v1 (llen (r_Leg a0_Legs))=true:=eZ hg ht hi1 hc1_;have hs1:=iL hg ht hi1 hc1_ hm1;obtain⟨z1,hz1⟩:=aX hc1_;rw[aH hz1] at h_1;rw[bJ] at h_1;obtain⟨z1_From,z1_To,z1_Start,z1_Takes,z1_Days,z1_Room⟩:=z1;try rw[←hg] at h_1
   try rw[←ht] at h_1
   try dsimp only at h_1
   rw[hb1];cbv;refine AStep.mk (fP hi1) ?_;cbv;refine AGet.mk _ (eT hg ht hi1 hz1) ?_;cbv;obtain⟨x2,hx2,h_1⟩:=ah h_1;try dsimp only at h_1
   refine ACall.mk _ _ rfl (hF _ _ _ (c5 hg ht hx2)) (.inl rfl) (nb rfl) ?_;cbv;refine AStep.mk (fP hi1) ?_;cbv;refine AGet.mk _ (eT hg ht hi1 hz1) ?_;cbv;obtain⟨x3,hx3,h_1⟩:=ah h_1;try dsimp only at h_1
   refine ACall.mk _ _ rfl (hF _ _ _ (c5 hg ht hx3)) (.inl rfl) (nb rfl) ?_;cbv;obtain⟨hc1,h_1⟩:=ak h_1;refine AStep.mk hc1 ?_;cbv;obtain⟨x4,hx4,h_1⟩:=aE h_1;try dsimp only at h_1
   refine AGet.mk _ (e7 hg ht hx4) ?_;cbv
   cases hb2:(lt x4 0)
   rotate_left
   ·rw[ab hb2] at h_1;cbv;try rw[hg] at h_1
    try rw[ht] at h_1
    refine⟨⟨(k1+1,(wrap .i64 (add v1 1)),w1),hc1_,hs1,h_1⟩,Wk.of [(0,some 0),(1,some 1)] rfl rfl ?_ ?_,bc hc1_⟩
    ·cbv;all_goals exact⟨⟨_,rfl,rfl⟩,⟨_,rfl,rfl⟩,⟨_,rfl,rfl⟩,⟨_,rfl,rfl⟩,⟨_,rfl,rfl⟩,⟨_,rfl,rfl⟩,trivial⟩
    cbv;all_goals exact⟨⟨_,rfl,_,rfl,rfl,rfl,rfl,trivial⟩,⟨_,rfl,rfl⟩,trivial⟩
   rw[aa hb2] at h_1;cbv;obtain⟨hc2,h_1⟩:=ak h_1;refine AStep.mk hc2 ?_;cbv;refine AGet.mk _ (e7 hg ht hx4) ?_;cbv;obtain⟨x5,hx5,h_1⟩:=ah h_1;try dsimp only at h_1
   refine ACall.mk _ _ rfl (hF _ _ _ (pT hg ht hx5)) (.inl rfl) (nb rfl) ?_;cbv;obtain⟨x6,hx6,h_1⟩:=ae h_1;try dsimp only at h_1
   refine ACall.mk _ _ rfl (hF _ _ _ (mO hg ht hx6)) (.inl rfl) (nb rfl) ?_;cbv
   cases hb3:(lt x6 0)
   rotate_left
   ·rw[ab hb3] at h_1;cbv;try rw[hg] at h_1
    try rw[ht] at h_1
    refine⟨⟨(k1+1,(wrap .i64 (add v1 1)),w1),hc1_,hs1,h_1⟩,Wk.of [(0,some 0),(1,some 1)] rfl rfl ?_ ?_,bc hc1_⟩
    ·cbv;all_goals exact⟨⟨_,rfl,rfl⟩,⟨_,rfl,rfl⟩,⟨_,rfl,rfl⟩,⟨_,rfl,rfl⟩,⟨_,rfl,rfl⟩,⟨_,rfl,rfl⟩,trivial⟩
    cbv;all_goals exact⟨⟨_,rfl,_,rfl,rfl,rfl,rfl,trivial⟩,⟨_,rfl,rfl⟩,trivial⟩
   rw[aa hb3] at h_1;cbv;obtain⟨x7,hx7,h_1⟩:=ae h_1;try dsimp only at h_1
   refine ACall.mk _ _ rfl (hF _ _ _ (gU hg ht hx7)) (.inl rfl) (nb rfl) ?_;cbv;obtain⟨hc3,h_1⟩:=ak h_1;refine AStep.mk hc3 ?_;cbv;obtain⟨x8,hx8,h_1⟩:=aE h_1;try dsimp only at h_1
   refine AGet.mk _ (bB hg ht hx8) ?_;cbv
   cases hb4:(lt x8 0)
   rotate_left
   ·rw[ab hb4] at h_1;cbv;iterate 6 try(rw[hb4];cbv)
    obtain⟨hc4,h_1⟩:=ak h_1;refine AStep.mk hc4 ?_;cbv;refine AGet.mk _ (bB hg ht hx8) ?_;cbv;obtain⟨l1,hl1,h_1⟩:=ah h_1;try dsimp only at h_1
    refine ANew.mk (d_I64 l1) _ (by rw[←hl1];exact lB hg ht _ _ x7) rfl ?_;have hnl1:(dlen (d_I64 w1))=(d_I64 l1).length:=(by rw[←hl1,kb ht];exact(al hg ht _));cbv;try rw[hg] at h_1
    try rw[ht] at h_1
    refine⟨⟨(k1+1,(wrap .i64 (add v1 1)),l1),hc1_,hs1,h_1⟩,Wk.of [(0,some 0),(1,some 1)] rfl rfl ?_ ?_,bc hc1_⟩
    ·cbv;all_goals try rw[show(dlen (d_I64 w1))=(dlen (d_I64 l1)) from(hnl1).trans (al hg ht _).symm]
     all_goals exact⟨⟨_,rfl,rfl⟩,⟨_,rfl,rfl⟩,⟨_,rfl,rfl⟩,⟨_,rfl,rfl⟩,⟨_,rfl,rfl⟩,⟨_,rfl,rfl⟩,trivial⟩
    cbv;all_goals try rw[show(dlen (d_I64 w1))=(dlen (d_I64 l1)) from(hnl1).trans (al hg ht _).symm]
    all_goals exact⟨⟨_,rfl,_,rfl,rfl,rfl,rfl,trivial⟩,⟨_,rfl,rfl⟩,trivial⟩
   rw[aa hb4] at h_1;cbv;iterate 3 try(rw[hb4];cbv)
   obtain⟨hc5,h_1⟩:=ak h_1;refine AStep.mk hc5 ?_;cbv;try(rw[hb4];cbv)
   refine AGet.mk _ (bB hg ht hx8) ?_;cbv;iterate 2 try(rw[hb4];cbv)
   cases hb5:(lt x7 x8)
   ·rw[aa hb5] at h_1;cbv;try rw[hg] at h_1
    try rw[ht] at h_1
    refine⟨⟨(k1+1,(wrap .i64 (add v1 1)),w1),hc1_,hs1,h_1⟩,Wk.of [(0,some 0),(1,some 1)] rfl rfl ?_ ?_,bc hc1_⟩
    ·cbv;all_goals exact⟨⟨_,rfl,rfl⟩,⟨_,rfl,rfl⟩,⟨_,rfl,rfl⟩,⟨_,rfl,rfl⟩,⟨_,rfl,rfl⟩,⟨_,rfl,rfl⟩,trivial⟩
    cbv;all_goals exact⟨⟨_,rfl,_,rfl,rfl,rfl,rfl,trivial⟩,⟨_,rfl,rfl⟩,trivial⟩
   rw[ab hb5] at h_1;cbv;obtain⟨hc6,h_1⟩:=ak h_1;refine AStep.mk hc6 ?_;cbv;refine AGet.mk _ (bB hg ht hx8) ?_;cbv;obtain⟨l2,hl2,h_1⟩:=ah h_1;try dsimp only at h_1
   refine ANew.mk (d_I64 l2) _ (by rw[←hl2];exact lB hg ht _ _ x7) rfl ?_;have hnl2:(dlen (d_I64 w1))=(d_I64 l2).length:=(by rw[←hl2,kb ht];exact(al hg ht _));cbv;try rw[hg] at h_1
   try rw[ht] at h_1
   refine⟨⟨(k1+1,(wrap .i64 (add v1 1)),l2),hc1_,hs1,h_1⟩,Wk.of [(0,some 0),(1,some 1)] rfl rfl ?_ ?_,bc hc1_⟩
   ·cbv;all_goals try rw[show(dlen (d_I64 w1))=(dlen (d_I64 l2)) from(hnl2).trans (al hg ht _).symm]
    all_goals exact⟨⟨_,rfl,rfl⟩,⟨_,rfl,rfl⟩,⟨_,rfl,rfl⟩,⟨_,rfl,rfl⟩,⟨_,rfl,rfl⟩,⟨_,rfl,rfl⟩,trivial⟩
   cbv;all_goals try rw[show(dlen (d_I64 w1))=(dlen (d_I64 l2)) from(hnl2).trans (al hg ht _).symm]
   all_goals exact⟨⟨_,rfl,_,rfl,rfl,rfl,rfl,trivial⟩,⟨_,rfl,rfl⟩,trivial⟩
  have hb1:lt v1 (llen (r_Leg a0_Legs))=false:=eG hg ht hi1 hc1_;rw[List.drop_of_length_le (Nat.le_of_not_lt hc1_)] at h_1;rw[bJ] at h_1;try rw[←hg] at h_1
  try rw[←ht] at h_1
  try dsimp only at h_1
  rw[hb1];cbv;refine⟨w1,Wk.of [(0,some 1)] rfl rfl ?_ ?_,(Option.some.inj h_1).symm⟩
  ·cbv;all_goals exact⟨⟨_,rfl,rfl⟩,trivial⟩
  cbv;all_goals exact⟨⟨_,rfl,rfl⟩,trivial⟩
 rintro y1 hy1;replace hy1:=hy1.symm;subst hy1;try dsimp only[lr,lrL,lrp,aZ] at h
 cbv;obtain rfl:=Option.some.inj h;exact ARet.mk ⟨rfl,(al hg ht _)⟩ hX.symm
def ir60:J:=js [jq 4 (.box 0),jq 8 (.mv (.k (.c (.n 1))))] [1,2,3,4] (js [jl 13 3 4,jc 14 58 [13],jm 9 14] [1,2,3,4,9] (js [jm 15 9,jm 16 1,jc 17 59 [15,16],jm 10 17] [2,3,4,9,10] (.seq (js [jl 18 3 4,jc 19 113 [18],jq 20 (.not 19),jm 21 20,jv 22 21 (.mv 10),jv 23 21 (.bin .lss .i 22 (ki 0)),jq 24 (.pick 21 kt 23),jm 25 24,jv 26 25 (.mv 2),jv 27 25 (.bin .gtr .i 26 (ki 100000)),jq 28 (.pick 25 kt 27),jm 29 28,jv 30 29 (.mv 3),jv 31 29 (.bin .lss .i 30 (ki 0)),jq 32 (.pick 29 kt 31)] [2,3,4,9,10,32] (.cond 32 (js [jq 33 (.bsl 1 []),jm 8 33] [8] .ret) .skip)) (js [jm 34 9,jm 35 10,jm 36 2,jc 37 114 [34,35,36],jm 11 37] [3,4,9,10,11] (.seq (js [jm 12 (ki 0)] [3,4,9,10,11,12] (.bl 0 (.seq (js [jm 38 12,jm 39 3,jb 40 .lss .i 38 39,jm 41 40,ju 42 41 (.mv 12),ju 43 41 (.mv 9),ju 44 41 (.len false 43),ju 45 41 (.bin .lss .i 42 44),jq 46 (.pick 41 45 kf)] [3,4,9,10,11,12,46] (.cond 46 .skip (.exit 0))) (.seq (.block 1 (.reg none [jl 49 3 4,jm 50 9,jm 51 11,jm 52 10,jc 53 115 [49,50,51,52],jm 11 53] [3,4,9,10,11,12])) (.reg none [jm 47 12,jb 48 .add .i 47 (ki 1),jm 12 48] [3,4,9,10,11,12]))))) (js [jm 54 11,jm 8 54] [8] .ret))))))
def rv60:List RV:=[.t 8]
def bD (g:G) (t:TE) (a0:Network) (x1:List ByteArray) (x2:Int):Nat→Int→List Int→Option (List Int)
 |0,v1,w1=>
  some w1
 |n1+1,v1,w1=>
  br (g.lt v1 (g.int (g.dlen (t.d_S x1))))
  (
   cl (mq g t a0 x1 w1 x2) fun x5=>
   bD g t a0 x1 x2 n1 (g.wrap .i64 (g.add v1 1)) x5)
  (
   some w1)
def a7 (g:G) (t:TE) (a0:Network) (a1:ByteArray) (a2:Int) (a3:Int):Option (List Int):=
 cl (dO g t a0) fun x1=>
 lP (cL g t x1 a1) fun x2=>
 cl (da g t a0) fun x3=>
 br x3
 (
  br (g.lt x2 0)
  (
   lP ([]) fun(l1:List Int)=>
   some l1)
  (
   br (g.lt 100000 a2)
   (
    lP ([]) fun(l2:List Int)=>
    some l2)
   (
    br (g.lt a3 0)
    (
     lP ([]) fun(l3:List Int)=>
     some l3)
    (
     cl (ko g t x1 x2 a2) fun x4=>
     gd ((a3≤9223372036854775807))<|
     cl (bD g t a0 x1 x2 (ap 0 a3) 0 x4) fun y1=>
     some y1))))
 (
  lP ([]) fun(l4:List Int)=>
  some l4)
theorem gO {g:G} {t:TE} {a0:Network} {a1:ByteArray} {a2:Int} {a3:Int} {r:List Int} (hg:g=G.real) (ht:t=TE.real) (h:a7 g t a0 a1 a2 a3=some r):Fn Tryz.prog 60 [.g (Network.rs t a0),.c (.v (.string a1)),.c (.v (.int .i64 a2)),.c (.v (.int .i64 a3))] (.c (.o 1 (t.d_I64 r))):=by
 obtain⟨X,hX⟩:=aC (.c (.o 1 (t.d_I64 r)):X);rw[←hX];refine aA (rvs:=rv60) (j:=ir60) Tryz.func60 rfl (by kernel_rfl) (nb rfl) (by kernel_rfl) af ?_;intro g2 F hg2 hF;obtain rfl:g2=g:=hg2.unique.trans hg.symm;clear hg2;obtain⟨wrap,lt,_,_,_,_,_,_,_,_,_,_,int,add,_,_,_,_,_,_,_,_,_,_,dlen,_,_,_,rd⟩:=g2;obtain⟨_,_,_,_,r_Leg,_,r_I64,d_I64,_,_,_,_,r_S,d_S⟩:=t
 obtain⟨a0_Legs,a0_Off,a0_Change⟩:=a0;have hfr_I64:∀l,dX (d_I64 l)=true:=t8 ht;unfold a7 at h;try dsimp only at h
 cbv;obtain⟨x1,hx1,h⟩:=ae h;try dsimp only at h
 refine ACall.mk _ _ rfl (hF _ _ _ (fg hg ht hx1)) (.inl rfl) (nb rfl) ?_;cbv;refine AStep.mk (fv ht (ar hg ht _)) ?_;cbv;obtain⟨x2,hx2,h⟩:=ah h;try dsimp only at h
 refine ACall.mk _ _ (by rw[show rd (d_S x1) 0 (dlen (d_S x1))=r_S x1 from iC hg ht (ar hg ht _)];try rfl) (hF _ _ _ (c5 hg ht hx2)) (.inr rfl) (nb rfl) ?_
 cbv;obtain⟨x3,hx3,h⟩:=ae h;try dsimp only at h
 refine ACall.mk _ _ rfl (hF _ _ _ (g7 hg ht hx3)) (.inl rfl) (nb rfl) ?_;cbv
 cases hb1:x3
 ·rw[aa hb1] at h;cbv;iterate 2 try(rw[hb1];cbv)
  obtain⟨l4,hl4,h⟩:=ah h;try dsimp only at h
  refine ANew.mk (d_I64 l4) (dlen (d_I64 l4)) (by rw[←hl4];exact cS hg ht []) (by rw[←hl4];exact co hg ht []) ?_;cbv;obtain rfl:=Option.some.inj h;exact ARet.mk ⟨rfl,(al hg ht _)⟩ hX.symm
 rw[ab hb1] at h;cbv;iterate 2 try(rw[hb1];cbv)
 cases hb2:(lt x2 0)
 rotate_left
 ·rw[ab hb2] at h;cbv;iterate 2 try(rw[hb2];cbv)
  obtain⟨l1,hl1,h⟩:=ah h;try dsimp only at h
  refine ANew.mk (d_I64 l1) (dlen (d_I64 l1)) (by rw[←hl1];exact cS hg ht []) (by rw[←hl1];exact co hg ht []) ?_;cbv;obtain rfl:=Option.some.inj h;exact ARet.mk ⟨rfl,(al hg ht _)⟩ hX.symm
 rw[aa hb2] at h;cbv;iterate 2 try(rw[hb2];cbv)
 cases hb3:(lt 100000 a2)
 rotate_left
 ·rw[ab hb3] at h;cbv;iterate 2 try(rw[hb3];cbv)
  obtain⟨l2,hl2,h⟩:=ah h;try dsimp only at h
  refine ANew.mk (d_I64 l2) (dlen (d_I64 l2)) (by rw[←hl2];exact cS hg ht []) (by rw[←hl2];exact co hg ht []) ?_;cbv;obtain rfl:=Option.some.inj h;exact ARet.mk ⟨rfl,(al hg ht _)⟩ hX.symm
 rw[aa hb3] at h;cbv;iterate 2 try(rw[hb3];cbv)
 cases hb4:(lt a3 0)
 rotate_left
 ·rw[ab hb4] at h;cbv;obtain⟨l3,hl3,h⟩:=ah h;try dsimp only at h
  refine ANew.mk (d_I64 l3) (dlen (d_I64 l3)) (by rw[←hl3];exact cS hg ht []) (by rw[←hl3];exact co hg ht []) ?_;cbv;obtain rfl:=Option.some.inj h;exact ARet.mk ⟨rfl,(al hg ht _)⟩ hX.symm
 rw[aa hb4] at h;cbv;refine AStep.mk (fv ht (ar hg ht _)) ?_;cbv;obtain⟨x4,hx4,h⟩:=ae h;try dsimp only at h
 refine ACall.mk _ _ (by rw[show rd (d_S x1) 0 (dlen (d_S x1))=r_S x1 from iC hg ht (ar hg ht _)];try rfl) (hF _ _ _ (wx hg ht hx4)) (.inr (by simp only[Go.Vs.X.fresh,Go.Vs.X.freshs,gN,dL,Bool.and_self,hfr_I64])) (nb rfl) ?_
 cbv;obtain⟨hB1,h⟩:=ak h;obtain⟨o1,ho1,h⟩:=ae h;try dsimp only at h
 try rw[hg] at ho1
 try rw[ht] at ho1
 refine ABL.mk {p:Nat×Int×List Int//p.1=ap p.2.1 a3∧0≤p.2.1∧bD G.real TE.real (Network.mk a0_Legs a0_Off a0_Change) x1 x2 p.1 p.2.1 p.2.2=some o1} (fun⟨⟨n1,v1,w1⟩,_⟩=>({sl:=[(3,.c (.r (.v (.int .i64 a3)))),(4,.c (.p 0 3 0 0)),(9,.c (.f 1 1 0 (dlen (d_S x1)))),(10,.c (.r (.v (.int .i64 x2)))),(11,.c (.f 2 1 0 (dlen (d_I64 w1)))),(12,.c (.r (.v (.int .i64 v1))))],tab:=[(0,some (.foc 3 [] [.r (.s 6 (r_Leg a0_Legs)),.r (.s 1 (r_I64 a0_Off)),.r (.v (.int .i64 a0_Change))] [])),(1,some (.arr 1 (d_S x1))),(2,some (.arr 1 (d_I64 w1)))]}:St)) 3 (fun p=>p.1.1) ⟨(ap 0 a3,0,x4),rfl,Int.le_refl _,ho1⟩ (List Int) (fun y1=>({sl:=[(11,.c (.f 0 1 0 (dlen (d_I64 y1))))],tab:=[(0,some (.arr 1 (d_I64 y1)))]}:St)) 1 (fun y=>o1=y) ?_ ?_ ?_
 ·refine Wk.of [(0,some 0),(1,some 48),(2,some 432)] rfl rfl ?_ ?_
  ·cbv;all_goals exact⟨⟨_,rfl,rfl⟩,⟨_,rfl,rfl⟩,⟨_,rfl,rfl⟩,⟨_,rfl,rfl⟩,⟨_,rfl,rfl⟩,⟨_,rfl,rfl⟩,trivial⟩
  cbv;all_goals exact⟨⟨_,rfl,_,rfl,rfl,rfl,rfl,trivial⟩,⟨_,rfl,rfl⟩,⟨_,rfl,rfl⟩,trivial⟩
 ·rintro⟨⟨n1,v1,w1⟩,hn1,hi1,h_1⟩ hq1;try dsimp only at hn1 hi1 h_1
  clear hq1;cbv;rcases n1 with _|n1
  ·have hb5:lt v1 a3=false:=ba hg hn1;rw[bD] at h_1;try rw[←hg] at h_1
   try rw[←ht] at h_1
   try dsimp only at h_1
   rw[hb5];cbv;iterate 4 try(rw[hb5];cbv)
   refine⟨w1,Wk.of [(0,some 2)] rfl rfl ?_ ?_,(Option.some.inj h_1).symm⟩
   ·cbv;all_goals exact⟨⟨_,rfl,rfl⟩,trivial⟩
   cbv;all_goals exact⟨⟨_,rfl,rfl⟩,trivial⟩
  have hb5:lt v1 a3=true:=bt hg hn1;have hl1:=cR hn1;have hs1:=bS hg hn1 hi1 hB1 (by decide);rw[bD] at h_1;try rw[←hg] at h_1
  try rw[←ht] at h_1
  try dsimp only at h_1
  rw[hb5];cbv;iterate 4 try(rw[hb5];cbv)
  cases hb6:(lt v1 (int (dlen (d_S x1))))
  ·rw[aa hb6] at h_1;cbv;refine⟨w1,Wk.of [(0,some 2)] rfl rfl ?_ ?_,(Option.some.inj h_1).symm⟩
   ·cbv;all_goals exact⟨⟨_,rfl,rfl⟩,trivial⟩
   cbv;all_goals exact⟨⟨_,rfl,rfl⟩,trivial⟩
  rw[ab hb6] at h_1;cbv;refine AStep.mk ⟨(fv ht (ar hg ht _)),(rA ht (al hg ht _))⟩ ?_;cbv;obtain⟨x5,hx5,h_1⟩:=ae h_1;try dsimp only at h_1
  refine ACall.mk _ _ (by rw[show rd (d_S x1) 0 (dlen (d_S x1))=r_S x1 from iC hg ht (ar hg ht _),show rd (d_I64 w1) 0 (dlen (d_I64 w1))=r_I64 w1 from vn hg ht (al hg ht _)];try rfl) (hF _ _ _ (wA hg ht hx5)) (.inr (by simp only[Go.Vs.X.fresh,Go.Vs.X.freshs,gN,dL,Bool.and_self,hfr_I64])) (nb rfl) ?_
  cbv;try rw[hg] at h_1
  try rw[ht] at h_1
  refine⟨⟨(n1,(wrap .i64 (add v1 1)),x5),hs1.1,hs1.2,h_1⟩,Wk.of [(0,some 0),(1,some 1),(2,some 211)] rfl rfl ?_ ?_,Nat.lt_succ_self _⟩
  ·cbv;all_goals exact⟨⟨_,rfl,rfl⟩,⟨_,rfl,rfl⟩,⟨_,rfl,rfl⟩,⟨_,rfl,rfl⟩,⟨_,rfl,rfl⟩,⟨_,rfl,rfl⟩,trivial⟩
  cbv;all_goals exact⟨⟨_,rfl,_,rfl,rfl,rfl,rfl,trivial⟩,⟨_,rfl,rfl⟩,⟨_,rfl,rfl⟩,trivial⟩
 rintro y1 hy1;replace hy1:=hy1.symm;subst hy1;try dsimp only[lr,lrL,lrp,aZ] at h
 cbv;obtain rfl:=Option.some.inj h;exact ARet.mk ⟨rfl,(al hg ht _)⟩ hX.symm
def ir57:J:=js [jq 4 (.box 0),jm 8 (ki 0)] [1,2,3,4] (js [jl 12 3 4,jc 13 58 [12],jm 9 13] [1,2,3,4,9] (js [jm 14 9,jm 15 2,jc 16 59 [14,15],jm 10 16] [1,3,4,9,10] (js [jl 17 3 4,jm 18 1,jm 19 3,jm 20 9,jq 21 (.len false 20),jc 22 60 [17,18,19,21],jm 11 22] [10,11] (.seq (js [jm 23 10,jb 24 .lss .i 23 (ki 0),jm 25 24,jv 26 25 (.mv 11),jv 27 25 (.len false 26),jv 28 25 (.bin .eql .i 27 (ki 0)),jq 29 (.pick 25 kt 28)] [10,11,29] (.cond 29 (js [jq 8 (.mv (.k (V.i (-1))))] [8] .ret) .skip)) (js [jm 30 11,jm 31 10,ja 32 1 30 31,jk 33 32,jm 8 33] [8] .ret)))))
def rv57:List RV:=[.t 8]
def fk (g:G) (t:TE) (a0:Network) (a1:ByteArray) (a2:ByteArray) (a3:Int):Option Int:=
 cl (dO g t a0) fun x1=>
 lP (cL g t x1 a2) fun x2=>
 cl (a7 g t a0 a1 a3 (g.int (g.dlen (t.d_S x1)))) fun x3=>
 br (g.lt x2 0)
 (
  some (-1))
 (
  br (g.eq (g.int (g.dlen (t.d_I64 x3))) 0)
  (
   some (-1))
  (
   gd (((0:Int)≤x2∧x2<(((g.dlen (t.d_I64 x3)):Nat):Int)))<|
   gt x3 (g.nat x2) fun x4=>
   some x4))
theorem ly {g:G} {t:TE} {a0:Network} {a1:ByteArray} {a2:ByteArray} {a3:Int} {r:Int} (hg:g=G.real) (ht:t=TE.real) (h:fk g t a0 a1 a2 a3=some r):Fn Tryz.prog 57 [.g (Network.rs t a0),.c (.v (.string a1)),.c (.v (.string a2)),.c (.v (.int .i64 a3))] (.c (.r (.v (.int .i64 r)))):=by
 obtain⟨X,hX⟩:=aC (.c (.r (.v (.int .i64 r))):X);rw[←hX];refine aA (rvs:=rv57) (j:=ir57) Tryz.func57 rfl (by kernel_rfl) (nb rfl) (by kernel_rfl) af ?_;intro g2 F hg2 hF;obtain rfl:g2=g:=hg2.unique.trans hg.symm;clear hg2;obtain⟨_,lt,_,eq,_,_,_,_,_,_,_,_,int,_,_,_,_,_,_,_,_,_,_,_,dlen,_,_,_,rd⟩:=g2;obtain⟨_,_,_,_,_,_,_,d_I64,_,_,_,_,r_S,d_S⟩:=t
 obtain⟨a0_Legs,a0_Off,a0_Change⟩:=a0;unfold fk at h;try dsimp only at h
 cbv;obtain⟨x1,hx1,h⟩:=ae h;try dsimp only at h
 refine ACall.mk _ _ rfl (hF _ _ _ (fg hg ht hx1)) (.inl rfl) (nb rfl) ?_;cbv;refine AStep.mk (fv ht (ar hg ht _)) ?_;cbv;obtain⟨x2,hx2,h⟩:=ah h;try dsimp only at h
 refine ACall.mk _ _ (by rw[show rd (d_S x1) 0 (dlen (d_S x1))=r_S x1 from iC hg ht (ar hg ht _)];try rfl) (hF _ _ _ (c5 hg ht hx2)) (.inr rfl) (nb rfl) ?_
 cbv;obtain⟨x3,hx3,h⟩:=ae h;try dsimp only at h
 refine ACall.mk _ _ rfl (hF _ _ _ (gO hg ht hx3)) (.inl rfl) (nb rfl) ?_;cbv
 cases hb1:(lt x2 0)
 rotate_left
 ·rw[ab hb1] at h;cbv;iterate 3 try(rw[hb1];cbv)
  obtain rfl:=Option.some.inj h;exact ARet.mk trivial hX.symm
 rw[aa hb1] at h;cbv;iterate 3 try(rw[hb1];cbv)
 cases hb2:(eq (int (dlen (d_I64 x3))) 0)
 rotate_left
 ·rw[ab hb2] at h;cbv;obtain rfl:=Option.some.inj h;exact ARet.mk trivial hX.symm
 rw[aa hb2] at h;cbv;obtain⟨hc1,h⟩:=ak h;refine AStep.mk hc1 ?_;cbv;obtain⟨x4,hx4,h⟩:=aE h;try dsimp only at h
 refine AGet.mk _ (bB hg ht hx4) ?_;cbv;obtain rfl:=Option.some.inj h;exact ARet.mk trivial hX.symm
def ir61:J:=js [jq 6 (.box 0),jq 12 (.alloc [.r (.v (.int .i64 0)),.r (.v (.int .i64 0))])] [1,2,3,4,5,6,12] (.seq (js [jm 13 (ki 0)] [1,2,3,4,5,6,12,13] (.bl 0 (.seq (js [jm 16 13,jf 17 0 6,jk 18 17,jq 19 (.len false 18),jb 20 .lss .i 16 19] [1,2,3,4,5,6,12,13,20] (.cond 20 .skip (.exit 0))) (.seq (.block 1 (js [jm 23 1,jf 24 0 6,jk 25 24,jm 26 13,ja 27 6 25 26,jf 28 0 27,jk 29 28,jc 30 59 [23,29],jm 14 30] [1,2,3,4,5,6,12,13,14] (.seq (.seq (.reg (some [[],[0],[],[0,1,2],[0,1,2,3],[0,1,2,3,4],[],[],[6,7],[6,7,8],[0,1,2,3,4,5,6,7,8,9],[0,1,2,3,4,5,6,7,8,9,10],[0,1,2,3,4,5,6,7,8,9,10,11],[0,1,2,3,4,5,6,7,8,9,10,11],[0,1,2,3,4,5,6,7,8,9,10,11,12,13],[0,1,2,3,4,5,6,7,8,9,10,11,12,13,14],[0,1,2,3,4,5,6,7,8,9,10,11,12,13,14,15],[0,1,2,3,4,5,6,7,8,9,10,11,12,13,14,15,16]]) [jf 31 0 6,jk 32 31,jm 33 13,ja 34 6 32 33,jf 35 1 34,jk 36 35,jm 37 1,jm 38 4,ja 39 1 37 38,jk 40 39,jb 41 .neq .s 36 40,jm 42 41,jv 43 42 (.mv 2),jv 44 42 (.mv 14),jv 45 42 (.ia 1 43 44),jv 46 42 (.ld false 1 45),jv 47 42 (.bin .lss .i 46 (ki 0)),jq 48 (.pick 42 kt 47)] [1,2,3,4,5,6,12,13,14,48]) (.cond 48 (.exit 1) .skip)) (.seq (.reg (some [[],[],[],[],[],[],[4,5],[4,5,6],[],[],[8,9],[3,4,5,6,7,8,9,10],[1,2,3,4,5,6,7,8,9,10,11],[0,1,2,3,4,5,6,7,8,9,10,11,12],[],[0,1,2,3,4,5,6,7,8,9,10,11,12,13,14]]) [jm 49 13,jl 50 3 6,jm 51 13,jl 52 3 6,jm 53 2,jm 54 14,ja 55 1 53 54,jk 56 55,jm 57 14,jm 58 3,jb 59 .eql .i 57 58,jc 60 117 [52,56,59],jc 61 116 [50,51,60],jq 62 (.bld [.r (.v (.int .i64 0)),.r (.v (.int .i64 0))] [(0,1,49),(1,1,61)]),jq 15 (.alloc [.r (.v (.int .i64 0)),.r (.v (.int .i64 0))]),jp (.st 2 15 62)] [1,2,3,4,5,6,12,13,15]) (js [jf 63 1 15,jk 64 63,jb 65 .geq .i 64 (ki 0),jm 66 65,ju 67 66 (.ld true 3 6),ju 68 66 (.ld true 2 15),ju 69 66 (.call 118 true [67,68]),ju 70 66 (.mv 5),ju 71 66 (.bin .eql .i 69 70),jq 72 (.pick 66 71 kf)] [1,2,3,4,5,6,12,13,15,72] (.cond 72 (js [jl 73 2 15,jp (.st 2 12 73)] [12] .ret) .skip)))))) (.reg none [jm 21 13,jb 22 .add .i 21 (ki 1),jm 13 22] [1,2,3,4,5,6,12,13]))))) (js [jq 74 (.bld [.r (.v (.int .i64 0)),.r (.v (.int .i64 0))] []),jp (.st 2 12 74)] [12] .ret))
def rv61:List RV:=[.c 12 true 2]
def cE (g:G) (t:TE) (a0:Network) (a1:List ByteArray) (a2:List Int) (a3:Int) (a4:Int) (a5:Int):List Leg→Int→Option (LR Trip Unit)
 |[],v1=>
  some (LR.out ())
 |z1::ls1,v1=>
  lP (cL g t a1 z1.From) fun x1=>
  gd (((0:Int)≤a4))<|
  gt a1 (g.nat a4) fun x2=>
  br (g.seq z1.To x2)
  (
   gd (((0:Int)≤x1))<|
   gt a2 (g.nat x1) fun x3=>
   br (g.lt x3 0)
   (
    cE g t a0 a1 a2 a3 a4 a5 ls1 (g.wrap .i64 (g.add v1 1)))
   (
    gd (((0:Int)≤x1))<|
    lP (fV g t a0 x3 (g.eq x1 a3)) fun x4=>
    cl (fD g t a0 v1 x4) fun x5=>
    br (g.le 0 x5)
    (
     cl (eC g t a0 (Trip.mk v1 x5)) fun x6=>
     br (g.eq x6 a5)
     (
      some (LR.ret (Trip.mk v1 x5)))
     (
      cE g t a0 a1 a2 a3 a4 a5 ls1 (g.wrap .i64 (g.add v1 1))))
    (
     cE g t a0 a1 a2 a3 a4 a5 ls1 (g.wrap .i64 (g.add v1 1)))))
  (
   cE g t a0 a1 a2 a3 a4 a5 ls1 (g.wrap .i64 (g.add v1 1)))
def nu (g:G) (t:TE) (a0:Network) (a1:List ByteArray) (a2:List Int) (a3:Int) (a4:Int) (a5:Int):Option Trip:=
 cl (cE g t a0 a1 a2 a3 a4 a5 a0.Legs 0) fun o1=>lr o1 fun y1=>
 some (Trip.mk 0 0)
theorem yT {g:G} {t:TE} {a0:Network} {a1:List ByteArray} {a2:List Int} {a3:Int} {a4:Int} {a5:Int} {r:Trip} (hg:g=G.real) (ht:t=TE.real) (h:nu g t a0 a1 a2 a3 a4 a5=some r):Fn Tryz.prog 61 [.g (Network.rs t a0),.c (.s 1 (t.r_S a1)),.c (.s 1 (t.r_I64 a2)),.c (.v (.int .i64 a3)),.c (.v (.int .i64 a4)),.c (.v (.int .i64 a5))] (.g (Trip.ds t r)):=by
 obtain⟨X,hX⟩:=aC (.g (Trip.ds t r):X);rw[←hX];refine aA (rvs:=rv61) (j:=ir61) Tryz.func61 rfl (by kernel_rfl) (nb rfl) (by kernel_rfl) af ?_;intro g2 F hg2 hF;obtain rfl:g2=g:=hg2.unique.trans hg.symm;clear hg2;obtain⟨wrap,lt,le,eq,_,_,_,_,_,_,_,_,_,add,_,_,_,seq,_,_,_,llen⟩:=g2;obtain⟨_,_,_,_,r_Leg,_,r_I64,_,_,_,_,_,r_S⟩:=t
 obtain⟨a0_Legs,a0_Off,a0_Change⟩:=a0;unfold nu at h;try dsimp only at h
 cbv;obtain⟨o1,ho1,h⟩:=ae h;try dsimp only at h
 try rw[hg] at ho1
 try rw[ht] at ho1
 refine ABL.mk {p:Nat×Int//p.1≤a0_Legs.length∧p.2=((p.1:Nat):Int)∧cE G.real TE.real (Network.mk a0_Legs a0_Off a0_Change) a1 a2 a3 a4 a5 (List.drop p.1 a0_Legs) p.2=some o1} (fun⟨⟨k1,v1⟩,_⟩=>({sl:=[(1,.c (.r (.s 1 (r_S a1)))),(2,.c (.r (.s 1 (r_I64 a2)))),(3,.c (.r (.v (.int .i64 a3)))),(4,.c (.r (.v (.int .i64 a4)))),(5,.c (.r (.v (.int .i64 a5)))),(6,.c (.p 0 3 0 0)),(12,.c (.p 1 2 0 0)),(13,.c (.r (.v (.int .i64 v1))))],tab:=[(0,some (.foc 3 [] [.r (.s 6 (r_Leg a0_Legs)),.r (.s 1 (r_I64 a0_Off)),.r (.v (.int .i64 a0_Change))] [])),(1,some (.foc 2 [] [.r (.v (.int .i64 0)),.r (.v (.int .i64 0))] []))]}:St)) 2 (fun p=>a0_Legs.length-p.1.1) ⟨(0,0),Nat.zero_le _,rfl,ho1⟩ (Unit) (fun _=>({sl:=[(12,.c (.p 0 2 0 0))],tab:=[(0,some (.foc 2 [] [.r (.v (.int .i64 0)),.r (.v (.int .i64 0))] []))]}:St)) 1 (fun y=>o1=LR.out y) ?_ ?_ ?_
 ·refine Wk.of [(0,some 0),(1,some 16)] rfl rfl ?_ ?_
  ·cbv;all_goals exact⟨⟨_,rfl,rfl⟩,⟨_,rfl,rfl⟩,⟨_,rfl,rfl⟩,⟨_,rfl,rfl⟩,⟨_,rfl,rfl⟩,⟨_,rfl,rfl⟩,⟨_,rfl,rfl⟩,⟨_,rfl,rfl⟩,trivial⟩
  cbv;all_goals exact⟨⟨_,rfl,_,rfl,rfl,rfl,rfl,trivial⟩,⟨_,rfl,_,rfl,rfl,rfl,trivial⟩,trivial⟩
 ·rintro⟨⟨k1,v1⟩,hk1,hi1,h_1⟩ hq1;have hm1:=(hq1.2.2.1 0 _ _ _ _ 0 _ _ rfl rfl);try dsimp only at hk1 hi1 h_1
  clear hq1;cbv
  by_cases hc1_:k1<a0_Legs.length
  ·have hb1:lt v1 (llen (r_Leg a0_Legs))=true:=eZ hg ht hi1 hc1_;have hs1:=iL hg ht hi1 hc1_ hm1;obtain⟨z1,hz1⟩:=aX hc1_;rw[aH hz1] at h_1;rw[cE] at h_1;obtain⟨z1_From,z1_To,z1_Start,z1_Takes,z1_Days,z1_Room⟩:=z1;try rw[←hg] at h_1
   try rw[←ht] at h_1
   try dsimp only at h_1
   rw[hb1];cbv;refine AStep.mk (fP hi1) ?_;cbv;refine AGet.mk _ (eT hg ht hi1 hz1) ?_;cbv;obtain⟨x1,hx1,h_1⟩:=ah h_1;try dsimp only at h_1
   refine ACall.mk _ _ rfl (hF _ _ _ (c5 hg ht hx1)) (.inl rfl) (nb rfl) ?_;cbv;refine AStep.mk (fP hi1) ?_;cbv;refine AGet.mk _ (eT hg ht hi1 hz1) ?_;cbv;obtain⟨hc1,h_1⟩:=ak h_1;refine AStep.mk hc1 ?_;cbv;obtain⟨x2,hx2,h_1⟩:=aE h_1;try dsimp only at h_1
   refine AGet.mk _ (vo hg ht hx2) ?_;cbv
   cases hb2:(seq z1_To x2)
   ·rw[aa hb2] at h_1;cbv;iterate 5 try(rw[hb2];cbv)
    try rw[hg] at h_1
    try rw[ht] at h_1
    refine⟨⟨(k1+1,(wrap .i64 (add v1 1))),hc1_,hs1,h_1⟩,Wk.of [(0,some 0),(1,some 1)] rfl rfl ?_ ?_,bc hc1_⟩
    ·cbv;all_goals exact⟨⟨_,rfl,rfl⟩,⟨_,rfl,rfl⟩,⟨_,rfl,rfl⟩,⟨_,rfl,rfl⟩,⟨_,rfl,rfl⟩,⟨_,rfl,rfl⟩,⟨_,rfl,rfl⟩,⟨_,rfl,rfl⟩,trivial⟩
    cbv;all_goals exact⟨⟨_,rfl,_,rfl,rfl,rfl,rfl,trivial⟩,⟨_,rfl,_,rfl,rfl,rfl,trivial⟩,trivial⟩
   rw[ab hb2] at h_1;cbv;iterate 2 try(rw[hb2];cbv)
   obtain⟨hc2,h_1⟩:=ak h_1;refine AStep.mk hc2 ?_;cbv;obtain⟨x3,hx3,h_1⟩:=aE h_1;try dsimp only at h_1
   refine AGet.mk _ (e7 hg ht hx3) ?_;cbv;iterate 3 try(rw[hb2];cbv)
   cases hb3:(lt x3 0)
   rotate_left
   ·rw[ab hb3] at h_1;cbv;try rw[hg] at h_1
    try rw[ht] at h_1
    refine⟨⟨(k1+1,(wrap .i64 (add v1 1))),hc1_,hs1,h_1⟩,Wk.of [(0,some 0),(1,some 1)] rfl rfl ?_ ?_,bc hc1_⟩
    ·cbv;all_goals exact⟨⟨_,rfl,rfl⟩,⟨_,rfl,rfl⟩,⟨_,rfl,rfl⟩,⟨_,rfl,rfl⟩,⟨_,rfl,rfl⟩,⟨_,rfl,rfl⟩,⟨_,rfl,rfl⟩,⟨_,rfl,rfl⟩,trivial⟩
    cbv;all_goals exact⟨⟨_,rfl,_,rfl,rfl,rfl,rfl,trivial⟩,⟨_,rfl,_,rfl,rfl,rfl,trivial⟩,trivial⟩
   rw[aa hb3] at h_1;cbv;obtain⟨hc3,h_1⟩:=ak h_1;refine AStep.mk hc3 ?_;cbv;refine AGet.mk _ (e7 hg ht hx3) ?_;cbv;obtain⟨x4,hx4,h_1⟩:=ah h_1;try dsimp only at h_1
   refine ACall.mk _ _ rfl (hF _ _ _ (pT hg ht hx4)) (.inl rfl) (nb rfl) ?_;cbv;obtain⟨x5,hx5,h_1⟩:=ae h_1;try dsimp only at h_1
   refine ACall.mk _ _ rfl (hF _ _ _ (mO hg ht hx5)) (.inl rfl) (nb rfl) ?_;cbv
   cases hb4:(le 0 x5)
   ·rw[aa hb4] at h_1;cbv;iterate 5 try(rw[hb4];cbv)
    try rw[hg] at h_1
    try rw[ht] at h_1
    refine⟨⟨(k1+1,(wrap .i64 (add v1 1))),hc1_,hs1,h_1⟩,Wk.of [(0,some 0),(1,some 1)] rfl rfl ?_ ?_,bc hc1_⟩
    ·cbv;all_goals exact⟨⟨_,rfl,rfl⟩,⟨_,rfl,rfl⟩,⟨_,rfl,rfl⟩,⟨_,rfl,rfl⟩,⟨_,rfl,rfl⟩,⟨_,rfl,rfl⟩,⟨_,rfl,rfl⟩,⟨_,rfl,rfl⟩,trivial⟩
    cbv;all_goals exact⟨⟨_,rfl,_,rfl,rfl,rfl,rfl,trivial⟩,⟨_,rfl,_,rfl,rfl,rfl,trivial⟩,trivial⟩
   rw[ab hb4] at h_1;cbv;iterate 2 try(rw[hb4];cbv)
   obtain⟨x6,hx6,h_1⟩:=ae h_1;try dsimp only at h_1
   refine ACall.mk _ _ rfl (hF _ _ _ (gU hg ht hx6)) (.inl rfl) (nb rfl) ?_;cbv;iterate 3 try(rw[hb4];cbv)
   cases hb5:(eq x6 a5)
   rotate_left
   ·rw[ab hb5] at h_1;cbv;obtain rfl:=Option.some.inj h_1;try dsimp only[lr,lrL,lrp,aZ] at h
    obtain rfl:=Option.some.inj h;exact ARet.mk trivial hX.symm
   rw[aa hb5] at h_1;cbv;try rw[hg] at h_1
   try rw[ht] at h_1
   refine⟨⟨(k1+1,(wrap .i64 (add v1 1))),hc1_,hs1,h_1⟩,Wk.of [(0,some 0),(1,some 1)] rfl rfl ?_ ?_,bc hc1_⟩
   ·cbv;all_goals exact⟨⟨_,rfl,rfl⟩,⟨_,rfl,rfl⟩,⟨_,rfl,rfl⟩,⟨_,rfl,rfl⟩,⟨_,rfl,rfl⟩,⟨_,rfl,rfl⟩,⟨_,rfl,rfl⟩,⟨_,rfl,rfl⟩,trivial⟩
   cbv;all_goals exact⟨⟨_,rfl,_,rfl,rfl,rfl,rfl,trivial⟩,⟨_,rfl,_,rfl,rfl,rfl,trivial⟩,trivial⟩
  have hb1:lt v1 (llen (r_Leg a0_Legs))=false:=eG hg ht hi1 hc1_;rw[List.drop_of_length_le (Nat.le_of_not_lt hc1_)] at h_1;rw[cE] at h_1;try rw[←hg] at h_1
  try rw[←ht] at h_1
  try dsimp only at h_1
  rw[hb1];cbv;refine⟨(),Wk.of [(0,some 1)] rfl rfl ?_ ?_,(Option.some.inj h_1).symm⟩
  ·cbv;all_goals exact⟨⟨_,rfl,rfl⟩,trivial⟩
  cbv;all_goals exact⟨⟨_,rfl,_,rfl,rfl,rfl,trivial⟩,trivial⟩
 rintro _ hy1;replace hy1:=hy1.symm;subst hy1;try dsimp only[lr,lrL,lrp,aZ] at h
 cbv;obtain rfl:=Option.some.inj h;exact ARet.mk trivial hX.symm
def ir14:J:=js [jq 4 (.box 0),jq 8 (.mv (.k (.c (.n 2)))),jm 9 kf] [1,2,3,4] (js [jl 19 3 4,jm 20 1,jm 21 2,jm 22 3,jc 23 57 [19,20,21,22],jm 10 23] [1,2,3,4,10] (.seq (js [jm 24 10,jb 25 .lss .i 24 (ki 0)] [1,2,3,4,10,25] (.cond 25 (js [jq 26 (.bsl 2 []),jm 8 26,jm 9 kf] [8,9] .ret) .skip)) (js [jl 27 3 4,jc 28 58 [27],jm 11 28] [1,2,3,4,10,11] (js [jm 29 11,jm 30 1,jc 31 59 [29,30],jm 12 31] [1,2,3,4,10,11,12] (js [jm 32 11,jm 33 2,jc 34 59 [32,33],jm 13 34] [1,3,4,10,11,12,13] (js [jm 14 (ki 0)] [1,3,4,10,11,12,13,14] (.seq (.bl 0 (.seq (js [jl 35 3 4,jm 36 1,jm 37 3,jm 38 14,jc 39 60 [35,36,37,38],jm 40 13,ja 41 1 39 40,jk 42 41,jm 43 10,jb 44 .neq .i 42 43] [1,3,4,10,11,12,13,14,44] (.cond 44 .skip (.exit 0))) (.block 1 (.reg none [jm 45 14,jb 46 .add .i 45 (ki 1),jm 14 46] [1,3,4,10,11,12,13,14])))) (js [jq 47 (.bsl 2 []),jm 15 47] [1,3,4,10,11,12,13,14,15] (.seq (js [jm 48 14,jm 16 48] [1,3,4,10,11,12,13,15,16] (.bl 2 (.seq (js [jm 49 16,jb 50 .gtr .i 49 (ki 0)] [1,3,4,10,11,12,13,15,16,50] (.cond 50 .skip (.exit 2))) (.seq (.block 3 (js [jl 53 3 4,jm 54 1,jm 55 3,jm 56 16,jb 57 .sub .i 56 (ki 1),jc 58 60 [53,54,55,57],jm 17 58] [1,3,4,10,11,12,13,15,16,17] (js [jl 59 3 4,jm 60 11,jm 61 17,jm 62 12,jm 63 13,jm 64 10,jc 65 61 [59,60,61,62,63,64],jq 18 (.alloc [.r (.v (.int .i64 0)),.r (.v (.int .i64 0))]),jp (.st 2 18 65)] [1,3,4,11,12,15,16,17,18] (js [jl 66 2 18,jq 67 (.bsl 2 [66]),jm 68 15,jq 69 (.app 2 16 false 67 68),jm 15 69] [1,3,4,11,12,15,16,17,18] (js [jm 70 11,jf 71 0 4,jk 72 71,jf 73 0 18,jk 74 73,ja 75 6 72 74,jf 76 0 75,jk 77 76,jc 78 59 [70,77],jm 13 78] [1,3,4,11,12,13,15,16,17] (.reg none [jm 79 17,jm 80 13,ja 81 1 79 80,jk 82 81,jm 10 82] [1,3,4,10,11,12,13,15,16])))))) (.reg none [jm 51 16,jb 52 .sub .i 51 (ki 1),jm 16 52] [1,3,4,10,11,12,13,15,16]))))) (js [jm 83 15,jm 8 83,jm 9 kt] [8,9] .ret))))))))))
def rv14:List RV:=[.t 8,.t 9]
def dA (g:G) (t:TE) (a0:Network) (a1:ByteArray) (a3:Int) (x2:List ByteArray) (x3:Int):Nat→Int→Int→List Trip→Int→Option (List Trip)
 |0,_,_,_,_=>none
 |n2+1,v2,v3,w1,v4=>
  br (g.lt 0 v4)
  (
   cl (a7 g t a0 a1 a3 (g.wrap .i64 (g.sub v4 1))) fun x7=>
   cl (nu g t a0 x2 x7 x3 v3 v2) fun x8=>
   lP ([x8]) fun(l3:List Trip)=>
   gd (((l3.length+w1.length)*16≤70368744177664))<|
   lP (l3++w1) fun(l4:List Trip)=>
   gd (((0:Int)≤x8.Leg))<|
   gt a0.Legs (g.nat x8.Leg) fun x9=>
   lP (cL g t x2 x9.From) fun x10=>
   gd (((0:Int)≤x10∧x10<(((g.dlen (t.d_I64 x7)):Nat):Int)))<|
   gt x7 (g.nat x10) fun x11=>
   dA g t a0 a1 a3 x2 x3 n2 x11 x10 l4 (g.wrap .i64 (g.sub v4 1)))
  (
   some w1)
def eu (g:G) (t:TE) (a0:Network) (a1:ByteArray) (a3:Int) (x1:Int) (x4:Int):Nat→Int→Option Int
 |0,_=>none
 |n1+1,v1=>
  cl (a7 g t a0 a1 a3 v1) fun x5=>
  gd (((0:Int)≤x4∧x4<(((g.dlen (t.d_I64 x5)):Nat):Int)))<|
  gt x5 (g.nat x4) fun x6=>
  br (g.eq x6 x1)
  (
   some v1)
  (
   eu g t a0 a1 a3 x1 x4 n1 (g.wrap .i64 (g.add v1 1)))
def ka (g:G) (t:TE) (a0:Network) (a1:ByteArray) (a2:ByteArray) (a3:Int):Option ((List Trip)×Bool):=
 cl (fk g t a0 a1 a2 a3) fun x1=>
 br (g.lt x1 0)
 (
  lP ([]) fun(l1:List Trip)=>
  some ((l1,false)))
 (
  cl (dO g t a0) fun x2=>
  lP (cL g t x2 a1) fun x3=>
  lP (cL g t x2 a2) fun x4=>
  cl (eu g t a0 a1 a3 x1 x4 1000000000 0) fun y1=>
  lP ([]) fun(l2:List Trip)=>
  cl (dA g t a0 a1 a3 x2 x3 1000000000 x1 x4 l2 y1) fun y2=>
  some ((y2,true)))
theorem wd {g:G} {t:TE} {a0:Network} {a1:ByteArray} {a2:ByteArray} {a3:Int} {r:(List Trip)×Bool} (hg:g=G.real) (ht:t=TE.real) (h:ka g t a0 a1 a2 a3=some r):Fn Tryz.prog 14 [.g (Network.rs t a0),.c (.v (.string a1)),.c (.v (.string a2)),.c (.v (.int .i64 a3))] (.u [.c (.o 2 (t.d_Trip r.1)),.c (.r (.v (.bool r.2)))]):=by
 obtain⟨X,hX⟩:=aC (.u [.c (.o 2 (t.d_Trip r.1)),.c (.r (.v (.bool r.2)))]:X);rw[←hX];refine aA (rvs:=rv14) (j:=ir14) Tryz.func14 rfl (by kernel_rfl) (nb rfl) (by kernel_rfl) af ?_;intro g2 F hg2 hF;obtain rfl:g2=g:=hg2.unique.trans hg.symm;clear hg2;obtain⟨wrap,lt,_,eq,_,_,_,_,_,_,_,_,_,add,sub,_,_,_,_,_,_,_,_,_,dlen,_,_,_,rd⟩:=g2;obtain⟨_,_,_,_,r_Leg,_,r_I64,d_I64,_,d_Trip,_,_,r_S,d_S⟩:=t
 obtain⟨a0_Legs,a0_Off,a0_Change⟩:=a0;unfold ka at h;try dsimp only at h
 cbv;obtain⟨x1,hx1,h⟩:=ae h;try dsimp only at h
 refine ACall.mk _ _ rfl (hF _ _ _ (ly hg ht hx1)) (.inl rfl) (nb rfl) ?_;cbv
 cases hb1:(lt x1 0)
 rotate_left
 ·rw[ab hb1] at h;cbv;obtain⟨l1,hl1,h⟩:=ah h;try dsimp only at h
  refine ANew.mk (d_Trip l1) (dlen (d_Trip l1)) (by rw[←hl1];exact sz hg ht []) (by rw[←hl1];exact oY hg ht []) ?_;cbv;obtain rfl:=Option.some.inj h;exact ARet.mk ⟨rfl,(d6 hg ht _)⟩ hX.symm
 rw[aa hb1] at h;cbv;obtain⟨x2,hx2,h⟩:=ae h;try dsimp only at h
 refine ACall.mk _ _ rfl (hF _ _ _ (fg hg ht hx2)) (.inl rfl) (nb rfl) ?_;cbv;refine AStep.mk (fv ht (ar hg ht _)) ?_;cbv;obtain⟨x3,hx3,h⟩:=ah h;try dsimp only at h
 refine ACall.mk _ _ (by rw[show rd (d_S x2) 0 (dlen (d_S x2))=r_S x2 from iC hg ht (ar hg ht _)];try rfl) (hF _ _ _ (c5 hg ht hx3)) (.inr rfl) (nb rfl) ?_
 cbv;refine AStep.mk (fv ht (ar hg ht _)) ?_;cbv;obtain⟨x4,hx4,h⟩:=ah h;try dsimp only at h
 refine ACall.mk _ _ (by rw[show rd (d_S x2) 0 (dlen (d_S x2))=r_S x2 from iC hg ht (ar hg ht _)];try rfl) (hF _ _ _ (c5 hg ht hx4)) (.inr rfl) (nb rfl) ?_
 cbv;obtain⟨o1,ho1,h⟩:=ae h;try dsimp only at h
 try rw[hg] at ho1
 try rw[ht] at ho1
 refine ABL.mk {p:Nat×Int//eu G.real TE.real (Network.mk a0_Legs a0_Off a0_Change) a1 a3 x1 x4 p.1 p.2=some o1} (fun⟨⟨n1,v1⟩,_⟩=>({sl:=[(1,.c (.r (.v (.string a1)))),(3,.c (.r (.v (.int .i64 a3)))),(4,.c (.p 0 3 0 0)),(10,.c (.r (.v (.int .i64 x1)))),(11,.c (.f 1 1 0 (dlen (d_S x2)))),(12,.c (.r (.v (.int .i64 x3)))),(13,.c (.r (.v (.int .i64 x4)))),(14,.c (.r (.v (.int .i64 v1))))],tab:=[(0,some (.foc 3 [] [.r (.s 6 (r_Leg a0_Legs)),.r (.s 1 (r_I64 a0_Off)),.r (.v (.int .i64 a0_Change))] [])),(1,some (.arr 1 (d_S x2)))]}:St)) 2 (fun p=>p.1.1) ⟨(1000000000,0),ho1⟩ (Int) (fun y1=>({sl:=[(1,.c (.r (.v (.string a1)))),(3,.c (.r (.v (.int .i64 a3)))),(4,.c (.p 0 3 0 0)),(10,.c (.r (.v (.int .i64 x1)))),(11,.c (.f 1 1 0 (dlen (d_S x2)))),(12,.c (.r (.v (.int .i64 x3)))),(13,.c (.r (.v (.int .i64 x4)))),(14,.c (.r (.v (.int .i64 y1))))],tab:=[(0,some (.foc 3 [] [.r (.s 6 (r_Leg a0_Legs)),.r (.s 1 (r_I64 a0_Off)),.r (.v (.int .i64 a0_Change))] [])),(1,some (.arr 1 (d_S x2)))]}:St)) 2 (fun y=>o1=y) ?_ ?_ ?_
 ·refine Wk.of [(0,some 0),(1,some 192)] rfl rfl ?_ ?_
  ·cbv;all_goals exact⟨⟨_,rfl,rfl⟩,⟨_,rfl,rfl⟩,⟨_,rfl,rfl⟩,⟨_,rfl,rfl⟩,⟨_,rfl,rfl⟩,⟨_,rfl,rfl⟩,⟨_,rfl,rfl⟩,⟨_,rfl,rfl⟩,trivial⟩
  cbv;all_goals exact⟨⟨_,rfl,_,rfl,rfl,rfl,rfl,trivial⟩,⟨_,rfl,rfl⟩,trivial⟩
 ·rintro⟨⟨n1,v1⟩,h_1⟩ hq1;try dsimp only at h_1
  clear hq1;rcases n1 with _|n1
  ·rw[eu] at h_1;cases h_1
  rw[eu] at h_1;try rw[←hg] at h_1
  try rw[←ht] at h_1
  try dsimp only at h_1
  cbv;obtain⟨x5,hx5,h_1⟩:=ae h_1;try dsimp only at h_1
  refine ACall.mk _ _ rfl (hF _ _ _ (gO hg ht hx5)) (.inl rfl) (nb rfl) ?_;cbv;obtain⟨hc1,h_1⟩:=ak h_1;refine AStep.mk hc1 ?_;cbv;obtain⟨x6,hx6,h_1⟩:=aE h_1;try dsimp only at h_1
  refine AGet.mk _ (bB hg ht hx6) ?_;cbv
  cases hb2:(eq x6 x1)
  rotate_left
  ·rw[ab hb2] at h_1;cbv;refine⟨v1,Wk.of [(0,some 0),(1,some 1)] rfl rfl ?_ ?_,(Option.some.inj h_1).symm⟩
   ·cbv;all_goals exact⟨⟨_,rfl,rfl⟩,⟨_,rfl,rfl⟩,⟨_,rfl,rfl⟩,⟨_,rfl,rfl⟩,⟨_,rfl,rfl⟩,⟨_,rfl,rfl⟩,⟨_,rfl,rfl⟩,⟨_,rfl,rfl⟩,trivial⟩
   cbv;all_goals exact⟨⟨_,rfl,_,rfl,rfl,rfl,rfl,trivial⟩,⟨_,rfl,rfl⟩,trivial⟩
  rw[aa hb2] at h_1;cbv;try rw[hg] at h_1
  try rw[ht] at h_1
  refine⟨⟨(n1,(wrap .i64 (add v1 1))),h_1⟩,Wk.of [(0,some 0),(1,some 1)] rfl rfl ?_ ?_,Nat.lt_succ_self _⟩
  ·cbv;all_goals exact⟨⟨_,rfl,rfl⟩,⟨_,rfl,rfl⟩,⟨_,rfl,rfl⟩,⟨_,rfl,rfl⟩,⟨_,rfl,rfl⟩,⟨_,rfl,rfl⟩,⟨_,rfl,rfl⟩,⟨_,rfl,rfl⟩,trivial⟩
  cbv;all_goals exact⟨⟨_,rfl,_,rfl,rfl,rfl,rfl,trivial⟩,⟨_,rfl,rfl⟩,trivial⟩
 rintro y1 hy1;replace hy1:=hy1.symm;subst hy1;try dsimp only[lr,lrL,lrp,aZ] at h
 cbv;obtain⟨l2,hl2,h⟩:=ah h;try dsimp only at h
 refine ANew.mk (d_Trip l2) (dlen (d_Trip l2)) (by rw[←hl2];exact sz hg ht []) (by rw[←hl2];exact oY hg ht []) ?_;cbv;obtain⟨o2,ho2,h⟩:=ae h;try dsimp only at h
 try rw[hg] at ho2
 try rw[ht] at ho2
 refine ABL.mk {p:Nat×Int×Int×(List Trip)×Int//dA G.real TE.real (Network.mk a0_Legs a0_Off a0_Change) a1 a3 x2 x3 p.1 p.2.1 p.2.2.1 p.2.2.2.1 p.2.2.2.2=some o2} (fun⟨⟨n2,v2,v3,w1,v4⟩,_⟩=>({sl:=[(1,.c (.r (.v (.string a1)))),(3,.c (.r (.v (.int .i64 a3)))),(4,.c (.p 0 3 0 0)),(10,.c (.r (.v (.int .i64 v2)))),(11,.c (.f 1 1 0 (dlen (d_S x2)))),(12,.c (.r (.v (.int .i64 x3)))),(13,.c (.r (.v (.int .i64 v3)))),(15,.c (.f 2 2 0 (dlen (d_Trip w1)))),(16,.c (.r (.v (.int .i64 v4))))],tab:=[(0,some (.foc 3 [] [.r (.s 6 (r_Leg a0_Legs)),.r (.s 1 (r_I64 a0_Off)),.r (.v (.int .i64 a0_Change))] [])),(1,some (.arr 1 (d_S x2))),(2,some (.arr 2 (d_Trip w1)))]}:St)) 3 (fun p=>p.1.1) ⟨(1000000000,x1,x4,l2,y1),ho2⟩ (List Trip) (fun y2=>({sl:=[(15,.c (.f 0 2 0 (dlen (d_Trip y2))))],tab:=[(0,some (.arr 2 (d_Trip y2)))]}:St)) 1 (fun y=>o2=y) ?_ ?_ ?_
 ·refine Wk.of [(0,some 0),(1,some 1),(2,some 2)] rfl rfl ?_ ?_
  ·cbv;all_goals exact⟨⟨_,rfl,rfl⟩,⟨_,rfl,rfl⟩,⟨_,rfl,rfl⟩,⟨_,rfl,rfl⟩,⟨_,rfl,rfl⟩,⟨_,rfl,rfl⟩,⟨_,rfl,rfl⟩,⟨_,rfl,rfl⟩,⟨_,rfl,rfl⟩,trivial⟩
  cbv;all_goals exact⟨⟨_,rfl,_,rfl,rfl,rfl,rfl,trivial⟩,⟨_,rfl,rfl⟩,⟨_,rfl,rfl⟩,trivial⟩
 ·rintro⟨⟨n2,v2,v3,w1,v4⟩,h_2⟩ hq2;try dsimp only at h_2
  clear hq2;rcases n2 with _|n2
  ·rw[dA] at h_2;cases h_2
  rw[dA] at h_2;try rw[←hg] at h_2
  try rw[←ht] at h_2
  try dsimp only at h_2
  cbv
  cases hb3:(lt 0 v4)
  ·rw[aa hb3] at h_2;cbv;refine⟨w1,Wk.of [(0,some 2)] rfl rfl ?_ ?_,(Option.some.inj h_2).symm⟩
   ·cbv;all_goals exact⟨⟨_,rfl,rfl⟩,trivial⟩
   cbv;all_goals exact⟨⟨_,rfl,rfl⟩,trivial⟩
  rw[ab hb3] at h_2;cbv;obtain⟨x7,hx7,h_2⟩:=ae h_2;try dsimp only at h_2
  refine ACall.mk _ _ rfl (hF _ _ _ (gO hg ht hx7)) (.inl rfl) (nb rfl) ?_;cbv;refine AStep.mk ⟨(fv ht (ar hg ht _)),(rA ht (al hg ht _))⟩ ?_;cbv;obtain⟨x8,hx8,h_2⟩:=ae h_2;obtain⟨x8_Leg,x8_Day⟩:=x8;try dsimp only at h_2
  refine ACall.mk _ _ (by rw[show rd (d_S x2) 0 (dlen (d_S x2))=r_S x2 from iC hg ht (ar hg ht _),show rd (d_I64 x7) 0 (dlen (d_I64 x7))=r_I64 x7 from vn hg ht (al hg ht _)];try rfl) (hF _ _ _ (yT hg ht hx8)) (.inr (by simp only[Go.Vs.X.fresh,Go.Vs.X.freshs,gN,dL,Bool.and_self,Trip.ds])) (nb rfl) ?_
  cbv;obtain⟨l3,hl3,h_2⟩:=ah h_2;try dsimp only at h_2
  refine ANew.mk (d_Trip l3) (dlen (d_Trip l3)) (by rw[←hl3];exact sz hg ht [(Trip.mk x8_Leg x8_Day)]) (by rw[←hl3];exact oY hg ht [(Trip.mk x8_Leg x8_Day)]) ?_;cbv;obtain⟨hc4,h_2⟩:=ak h_2;refine AStep.mk ⟨(uz hg ht (d6 hg ht _)),(wv hg ht (d6 hg ht _) (ni hg ht (d6 hg ht _)) hc4)⟩ ?_;cbv;obtain⟨l4,hl4,h_2⟩:=ah h_2;try dsimp only at h_2
  refine ANew.mk (d_Trip l4) (dlen (d_Trip l4)) (by rw[←hl4];exact BU hg ht (d6 hg ht _) (ni hg ht (d6 hg ht _))) (by rw[←hl4];exact AX hg ht (d6 hg ht _) (ni hg ht (d6 hg ht _))) ?_;cbv;obtain⟨hc2,h_2⟩:=ak h_2;refine AStep.mk hc2 ?_;cbv;obtain⟨x9,hx9,h_2⟩:=aE h_2;obtain⟨x9_From,x9_To,x9_Start,x9_Takes,x9_Days,x9_Room⟩:=x9;try dsimp only at h_2
  refine AGet.mk _ (bk hg ht hx9) ?_;cbv;refine AStep.mk (fv ht (ar hg ht _)) ?_;cbv;obtain⟨x10,hx10,h_2⟩:=ah h_2;try dsimp only at h_2
  refine ACall.mk _ _ (by rw[show rd (d_S x2) 0 (dlen (d_S x2))=r_S x2 from iC hg ht (ar hg ht _)];try rfl) (hF _ _ _ (c5 hg ht hx10)) (.inr rfl) (nb rfl) ?_
  cbv;obtain⟨hc3,h_2⟩:=ak h_2;refine AStep.mk hc3 ?_;cbv;obtain⟨x11,hx11,h_2⟩:=aE h_2;try dsimp only at h_2
  refine AGet.mk _ (bB hg ht hx11) ?_;cbv;try rw[hg] at h_2
  try rw[ht] at h_2
  refine⟨⟨(n2,x11,x10,l4,(wrap .i64 (sub v4 1))),h_2⟩,Wk.of [(0,some 0),(1,some 1),(2,some 339)] rfl rfl ?_ ?_,Nat.lt_succ_self _⟩
  ·cbv;all_goals exact⟨⟨_,rfl,rfl⟩,⟨_,rfl,rfl⟩,⟨_,rfl,rfl⟩,⟨_,rfl,rfl⟩,⟨_,rfl,rfl⟩,⟨_,rfl,rfl⟩,⟨_,rfl,rfl⟩,⟨_,rfl,rfl⟩,⟨_,rfl,rfl⟩,trivial⟩
  cbv;all_goals exact⟨⟨_,rfl,_,rfl,rfl,rfl,rfl,trivial⟩,⟨_,rfl,rfl⟩,⟨_,rfl,rfl⟩,trivial⟩
 rintro y2 hy2;replace hy2:=hy2.symm;subst hy2;try dsimp only[lr,lrL,lrp,aZ] at h
 cbv;obtain rfl:=Option.some.inj h;exact ARet.mk ⟨rfl,(d6 hg ht _)⟩ hX.symm
def GO:J:=js [jq 3 (.box 0),jm 6 kf] [1,2,3] (js [jl 7 3 3,jc 8 113 [7],jm 9 8,ju 10 9 (.ld true 3 3),ju 11 9 (.mv 1),ju 12 9 (.mv 2),ju 13 9 (.call 153 true [10,11,12]),jq 14 (.pick 9 13 kf),jm 6 14] [6] .ret)
def HH:List RV:=[.t 6]
def oH (g:G) (t:TE) (a0:Network) (a1:Int) (a2:Int):Option Bool:=
 cl (da g t a0) fun x1=>
 br x1
 (
  cl (ig g t a0 a1 a2) fun x2=>
  some x2)
 (
  some false)
theorem yM {g:G} {t:TE} {a0:Network} {a1:Int} {a2:Int} {r:Bool} (hg:g=G.real) (ht:t=TE.real) (h:oH g t a0 a1 a2=some r):Fn Tryz.prog 154 [.g (Network.rs t a0),.c (.v (.int .i64 a1)),.c (.v (.int .i64 a2))] (.c (.r (.v (.bool r)))):=by
 obtain⟨X,hX⟩:=aC (.c (.r (.v (.bool r))):X);rw[←hX];refine aA (rvs:=HH) (j:=GO) Tryz.func154 rfl (by kernel_rfl) (nb rfl) (by kernel_rfl) af ?_;intro g2 F hg2 hF;obtain rfl:g2=g:=hg2.unique.trans hg.symm;clear hg2;obtain⟨_⟩:=g2;obtain⟨_⟩:=t
 obtain⟨a0_Legs,a0_Off,a0_Change⟩:=a0;unfold oH at h;try dsimp only at h
 cbv;obtain⟨x1,hx1,h⟩:=ae h;try dsimp only at h
 refine ACall.mk _ _ rfl (hF _ _ _ (g7 hg ht hx1)) (.inl rfl) (nb rfl) ?_;cbv
 cases hb1:x1
 ·rw[aa hb1] at h;cbv;iterate 4 try(rw[hb1];cbv)
  obtain rfl:=Option.some.inj h;exact ARet.mk trivial hX.symm
 rw[ab hb1] at h;cbv;iterate 3 try(rw[hb1];cbv)
 obtain⟨x2,hx2,h⟩:=ae h;try dsimp only at h
 refine ACall.mk _ _ rfl (hF _ _ _ (rX hg ht hx2)) (.inl rfl) (nb rfl) ?_;cbv;try(rw[hb1];cbv)
 obtain rfl:=Option.some.inj h;exact ARet.mk trivial hX.symm
def HA:J:=js [jq 2 (.box 0),jq 3 (.box 1),jm 4 kf] [2,3] (js [jl 5 3 2,jf 6 0 3,jk 7 6,jf 8 1 3,jk 9 8,jc 10 154 [5,7,9],jm 4 10] [4] .ret)
def H9:List RV:=[.t 4]
def fC (g:G) (t:TE) (a0:Network) (a1:Trip):Option Bool:=
 cl (oH g t a0 a1.Leg a1.Day) fun x1=>
 some x1
theorem iS {g:G} {t:TE} {a0:Network} {a1:Trip} {r:Bool} (hg:g=G.real) (ht:t=TE.real) (h:fC g t a0 a1=some r):Fn Tryz.prog 119 [.g (Network.rs t a0),.g (Trip.rs t a1)] (.c (.r (.v (.bool r)))):=by
 obtain⟨X,hX⟩:=aC (.c (.r (.v (.bool r))):X);rw[←hX];refine aA (rvs:=H9) (j:=HA) Tryz.func119 rfl (by kernel_rfl) (nb rfl) (by kernel_rfl) af ?_;intro g2 F hg2 hF;obtain rfl:g2=g:=hg2.unique.trans hg.symm;clear hg2;obtain⟨_⟩:=g2;obtain⟨_⟩:=t
 obtain⟨a0_Legs,a0_Off,a0_Change⟩:=a0;obtain⟨a1_Leg,a1_Day⟩:=a1;unfold fC at h;try dsimp only at h
 cbv;obtain⟨x1,hx1,h⟩:=ae h;try dsimp only at h
 refine ACall.mk _ _ rfl (hF _ _ _ (yM hg ht hx1)) (.inl rfl) (nb rfl) ?_;cbv;obtain rfl:=Option.some.inj h;exact ARet.mk trivial hX.symm
def ir62:J:=js [jq 2 (.box 0),jq 3 (.box 1),jm 4 (ki 0)] [2,3] (.seq (js [jl 5 3 2,jl 6 2 3,jc 7 119 [5,6],jq 8 (.not 7)] [2,3,8] (.cond 8 (js [jq 4 (.mv (.k (V.i (-1))))] [4] .ret) .skip)) (js [jl 9 3 2,jl 10 2 3,jc 11 120 [9,10],jm 4 11] [4] .ret))
def rv62:List RV:=[.t 4]
def gG (g:G) (t:TE) (a0:Network) (a1:Trip):Option Int:=
 cl (fC g t a0 a1) fun x1=>
 br x1
 (
  cl (cM g t a0 a1) fun x2=>
  some x2)
 (
  some (-1))
theorem nR {g:G} {t:TE} {a0:Network} {a1:Trip} {r:Int} (hg:g=G.real) (ht:t=TE.real) (h:gG g t a0 a1=some r):Fn Tryz.prog 62 [.g (Network.rs t a0),.g (Trip.rs t a1)] (.c (.r (.v (.int .i64 r)))):=by
 obtain⟨X,hX⟩:=aC (.c (.r (.v (.int .i64 r))):X);rw[←hX];refine aA (rvs:=rv62) (j:=ir62) Tryz.func62 rfl (by kernel_rfl) (nb rfl) (by kernel_rfl) af ?_;intro g2 F hg2 hF;obtain rfl:g2=g:=hg2.unique.trans hg.symm;clear hg2;obtain⟨_⟩:=g2;obtain⟨_⟩:=t
 obtain⟨a0_Legs,a0_Off,a0_Change⟩:=a0;obtain⟨a1_Leg,a1_Day⟩:=a1;unfold gG at h;try dsimp only at h
 cbv;obtain⟨x1,hx1,h⟩:=ae h;try dsimp only at h
 refine ACall.mk _ _ rfl (hF _ _ _ (iS hg ht hx1)) (.inl rfl) (nb rfl) ?_;cbv
 cases hb1:x1
 ·rw[aa hb1] at h;cbv;obtain rfl:=Option.some.inj h;exact ARet.mk trivial hX.symm
 rw[ab hb1] at h;cbv;obtain⟨x2,hx2,h⟩:=ae h;try dsimp only at h
 refine ACall.mk _ _ rfl (hF _ _ _ (fj hg ht hx2)) (.inl rfl) (nb rfl) ?_;cbv;obtain rfl:=Option.some.inj h;exact ARet.mk trivial hX.symm
def ir63:J:=js [jq 2 (.box 0),jq 3 (.box 1),jm 4 (ki 0)] [2,3] (.seq (js [jl 5 3 2,jl 6 2 3,jc 7 119 [5,6],jq 8 (.not 7)] [2,3,8] (.cond 8 (js [jq 4 (.mv (.k (V.i (-1))))] [4] .ret) .skip)) (js [jl 9 3 2,jl 10 2 3,jc 11 118 [9,10],jm 4 11] [4] .ret))
def rv63:List RV:=[.t 4]
def kc (g:G) (t:TE) (a0:Network) (a1:Trip):Option Int:=
 cl (fC g t a0 a1) fun x1=>
 br x1
 (
  cl (eC g t a0 a1) fun x2=>
  some x2)
 (
  some (-1))
theorem rh {g:G} {t:TE} {a0:Network} {a1:Trip} {r:Int} (hg:g=G.real) (ht:t=TE.real) (h:kc g t a0 a1=some r):Fn Tryz.prog 63 [.g (Network.rs t a0),.g (Trip.rs t a1)] (.c (.r (.v (.int .i64 r)))):=by
 obtain⟨X,hX⟩:=aC (.c (.r (.v (.int .i64 r))):X);rw[←hX];refine aA (rvs:=rv63) (j:=ir63) Tryz.func63 rfl (by kernel_rfl) (nb rfl) (by kernel_rfl) af ?_;intro g2 F hg2 hF;obtain rfl:g2=g:=hg2.unique.trans hg.symm;clear hg2;obtain⟨_⟩:=g2;obtain⟨_⟩:=t
 obtain⟨a0_Legs,a0_Off,a0_Change⟩:=a0;obtain⟨a1_Leg,a1_Day⟩:=a1;unfold kc at h;try dsimp only at h
 cbv;obtain⟨x1,hx1,h⟩:=ae h;try dsimp only at h
 refine ACall.mk _ _ rfl (hF _ _ _ (iS hg ht hx1)) (.inl rfl) (nb rfl) ?_;cbv
 cases hb1:x1
 ·rw[aa hb1] at h;cbv;obtain rfl:=Option.some.inj h;exact ARet.mk trivial hX.symm
 rw[ab hb1] at h;cbv;obtain⟨x2,hx2,h⟩:=ae h;try dsimp only at h
 refine ACall.mk _ _ rfl (hF _ _ _ (gU hg ht hx2)) (.inl rfl) (nb rfl) ?_;cbv;obtain rfl:=Option.some.inj h;exact ARet.mk trivial hX.symm
def ir70 (s_k0:ByteArray):J:=js [jq 3 (.box 1),jq 4 (.mv (.k (.c (.r (.v (.string s_k0))))))] [0,3] (js [jl 6 3 3,jc 7 58 [6],jm 5 7] [0,5] (.seq (js [jm 8 0,jq 9 (.callm 67 true 8 [(ki 9)])] [0,5,9] (.cond 9 (js [jm 10 0,jq 11 (.callm 124 true 10 []),jm 4 11] [4] .ret) .skip)) (js [jm 12 5,jm 13 0,jm 14 5,jq 15 (.len false 14),jq 16 (.callm 90 true 13 [15]),ja 17 1 12 16,jk 18 17,jm 4 18] [4] .ret)))
def rv70:List RV:=[.t 4]
def lM (g:G) (t:TE) (a0:Cur) (a1:Network):Option (ByteArray×Cur):=
 cl (dO g t a1) fun x1=>
 cl (cr g t a0 9) fun x2=>
 br x2.1
 (
  cl (gP g t (Cur.mk x2.2.b x2.2.i x2.2.h)) fun x3=>
  some ((x3.1,(Cur.mk x3.2.b x3.2.i x3.2.h))))
 (
  cl (aF g t (Cur.mk x2.2.b x2.2.i x2.2.h) (g.int (g.dlen (t.d_S x1)))) fun x4=>
  gd (((0:Int)≤x4.1∧x4.1<(((g.dlen (t.d_S x1)):Nat):Int)))<|
  gt x1 (g.nat x4.1) fun x5=>
  some ((x5,(Cur.mk x4.2.b x4.2.i x4.2.h))))
theorem nY {g:G} {t:TE} {a0:Cur} {a1:Network} {r:ByteArray×Cur} (hg:g=G.real) (ht:t=TE.real) (h:lM g t a0 a1=some r):FnM Tryz.prog 70 (.p (Cur.ds t a0)) [.g (Network.rs t a1)] (.c (.r (.v (.string r.1)))) (.p (Cur.ds t r.2)):=by
 obtain⟨X,hX⟩:=aC (.c (.r (.v (.string r.1))):X);obtain⟨Y,hY⟩:=aC (.p (Cur.ds t r.2):AM);rw[←hX,←hY];refine eI (rvs:=rv70) (j:=(ir70 str_k0)) Tryz.func70 rfl (by kernel_rfl) (nb rfl) (by kernel_rfl) af ?_;intro g2 F hg2 hF;obtain rfl:g2=g:=hg2.unique.trans hg.symm;clear hg2;obtain⟨_⟩:=g2;obtain⟨_⟩:=t
 obtain⟨a0_b,a0_i,a0_h⟩:=a0;obtain⟨a1_Legs,a1_Off,a1_Change⟩:=a1;unfold lM at h;try dsimp only at h
 obtain⟨s_k0,hs_k0⟩:∃s,str_k0=s:=⟨_,rfl⟩;try rw[hs_k0] at h
 rw[hs_k0];cbv;obtain⟨x1,hx1,h⟩:=ae h;try dsimp only at h
 refine ACall.mk _ _ rfl (hF _ _ _ (fg hg ht hx1)) (.inl rfl) (nb rfl) ?_;cbv;obtain⟨x2,hx2,h⟩:=ae h;obtain⟨x2_1,⟨x2_2_b,x2_2_i,x2_2_h⟩⟩:=x2;try dsimp only at h
 refine ACallM.mk _ _ _ _ rfl rfl (hF _ _ _ (bZ hg ht hx2)) rfl (nb rfl) (nb rfl) ?_;cbv;have hb1:x2_1=true∨x2_1=false:=by cases x2_1<;>simp
 rcases hb1 with hb1|hb1
 ·rw[ab hb1] at h;have hK_:=h;subst hb1;have h:=hK_;clear hK_;cbv;obtain⟨x3,hx3,h⟩:=ae h;obtain⟨x3_1,⟨x3_2_b,x3_2_i,x3_2_h⟩⟩:=x3;try dsimp only at h
  refine ACallM.mk _ _ _ _ rfl rfl (hF _ _ _ (lq hg ht hx3)) rfl (nb rfl) (nb rfl) ?_;cbv;obtain rfl:=Option.some.inj h;exact ARetM.mk trivial hX.symm hY.symm
 rw[aa hb1] at h;have hK_:=h;subst hb1;have h:=hK_;clear hK_;cbv;obtain⟨x4,hx4,h⟩:=ae h;obtain⟨x4_1,⟨x4_2_b,x4_2_i,x4_2_h⟩⟩:=x4;try dsimp only at h
 refine ACallM.mk _ _ _ _ rfl rfl (hF _ _ _ (ay hg ht hx4)) rfl (nb rfl) (nb rfl) ?_;cbv;obtain⟨hc1,h⟩:=ak h;refine AStep.mk hc1 ?_;cbv;obtain⟨x5,hx5,h⟩:=aE h;try dsimp only at h
 refine AGet.mk _ (ma hg ht hx5) ?_;cbv;obtain rfl:=Option.some.inj h;exact ARetM.mk trivial hX.symm hY.symm
def Hg:J:=js [jq 3 (.box 0),jm 6 (ki 0)] [1,2,3] (js [jm 9 2,jm 7 9] [1,3,7] (.seq (js [jl 10 3 3,jc 11 113 [10],jq 12 (.not 11)] [1,3,7,12] (.cond 12 (js [jq 6 (.mv (.k (V.i (-1))))] [6] .ret) .skip)) (.seq (js [jm 8 (ki 0)] [1,3,7,8] (.bl 0 (.seq (js [jm 13 8,jm 14 1,jq 15 (.len false 14),jb 16 .lss .i 13 15] [1,3,7,8,16] (.cond 16 .skip (.exit 0))) (.seq (.block 1 (.seq (.seq (.reg (some [[],[],[],[1,2],[1,2,3],[0,1,2,3,4],[0,1,2,3,4,5]]) [jl 19 3 3,jm 20 1,jm 21 8,ja 22 2 20 21,jl 23 2 22,jc 24 119 [19,23],jq 25 (.not 24)] [1,3,8,25]) (.cond 25 (js [jq 6 (.mv (.k (V.i (-1))))] [6] .ret) .skip)) (.reg (some [[],[],[],[1,2],[1,2,3],[0,1,2,3,4],[0,1,2,3,4,5]]) [jl 26 3 3,jm 27 1,jm 28 8,ja 29 2 27 28,jl 30 2 29,jc 31 118 [26,30],jm 7 31] [1,3,7,8]))) (.reg none [jm 17 8,jb 18 .add .i 17 (ki 1),jm 8 18] [1,3,7,8]))))) (js [jm 32 7,jm 6 32] [6] .ret))))
def F4:List RV:=[.t 6]
def dv (g:G) (t:TE) (a0:Network):List Trip→Int→Option (LR Int Int)
 |[],v1=>
  some (LR.out v1)
 |z1::ls1,v1=>
  cl (fC g t a0 z1) fun x2=>
  br x2
  (
   cl (eC g t a0 z1) fun x3=>
   dv g t a0 ls1 x3)
  (
   some (LR.ret (-1)))
def j9 (g:G) (t:TE) (a0:Network) (a1:List Trip) (a2:Int):Option Int:=
 cl (da g t a0) fun x1=>
 br x1
 (
  cl (dv g t a0 a1 a2) fun o1=>lr o1 fun y1=>
  some y1)
 (
  some (-1))
theorem wU {g:G} {t:TE} {a0:Network} {a1:List Trip} {a2:Int} {r:Int} (hg:g=G.real) (ht:t=TE.real) (h:j9 g t a0 a1 a2=some r):Fn Tryz.prog 173 [.g (Network.rs t a0),.c (.s 2 (t.r_Trip a1)),.c (.v (.int .i64 a2))] (.c (.r (.v (.int .i64 r)))):=by
 obtain⟨X,hX⟩:=aC (.c (.r (.v (.int .i64 r))):X);rw[←hX];refine aA (rvs:=F4) (j:=Hg) Tryz.func173 rfl (by kernel_rfl) (nb rfl) (by kernel_rfl) af ?_;intro g2 F hg2 hF;obtain rfl:g2=g:=hg2.unique.trans hg.symm;clear hg2;obtain⟨wrap,lt,_,_,_,_,_,_,_,_,_,_,_,add,_,_,_,_,_,_,_,llen⟩:=g2;obtain⟨_,_,_,_,r_Leg,_,r_I64,_,r_Trip⟩:=t
 obtain⟨a0_Legs,a0_Off,a0_Change⟩:=a0;unfold j9 at h;try dsimp only at h
 cbv;obtain⟨x1,hx1,h⟩:=ae h;try dsimp only at h
 refine ACall.mk _ _ rfl (hF _ _ _ (g7 hg ht hx1)) (.inl rfl) (nb rfl) ?_;cbv
 cases hb1:x1
 ·rw[aa hb1] at h;cbv;obtain rfl:=Option.some.inj h;exact ARet.mk trivial hX.symm
 rw[ab hb1] at h;cbv;obtain⟨o1,ho1,h⟩:=ae h;try dsimp only at h
 try rw[hg] at ho1
 try rw[ht] at ho1
 refine ABL.mk {p:Nat×Int×Int//p.1≤a1.length∧p.2.1=((p.1:Nat):Int)∧dv G.real TE.real (Network.mk a0_Legs a0_Off a0_Change) (List.drop p.1 a1) p.2.2=some o1} (fun⟨⟨k1,v2,v1⟩,_⟩=>({sl:=[(1,.c (.r (.s 2 (r_Trip a1)))),(3,.c (.p 0 3 0 0)),(7,.c (.r (.v (.int .i64 v1)))),(8,.c (.r (.v (.int .i64 v2))))],tab:=[(0,some (.foc 3 [] [.r (.s 6 (r_Leg a0_Legs)),.r (.s 1 (r_I64 a0_Off)),.r (.v (.int .i64 a0_Change))] []))]}:St)) 1 (fun p=>a1.length-p.1.1) ⟨(0,0,a2),Nat.zero_le _,rfl,ho1⟩ (Int) (fun y1=>({sl:=[(7,.c (.r (.v (.int .i64 y1))))],tab:=[]}:St)) 0 (fun y=>o1=LR.out y) ?_ ?_ ?_
 ·refine Wk.of [(0,some 0)] rfl rfl ?_ ?_
  ·cbv;all_goals exact⟨⟨_,rfl,rfl⟩,⟨_,rfl,rfl⟩,⟨_,rfl,rfl⟩,⟨_,rfl,rfl⟩,trivial⟩
  cbv;all_goals exact⟨⟨_,rfl,_,rfl,rfl,rfl,rfl,trivial⟩,trivial⟩
 ·rintro⟨⟨k1,v2,v1⟩,hk1,hi1,h_1⟩ hq1;have hm1:=(hq1.1 1 _ _ rfl);try dsimp only at hk1 hi1 h_1
  clear hq1;cbv
  by_cases hc1_:k1<a1.length
  ·have hb2:lt v2 (llen (r_Trip a1))=true:=mH hg ht hi1 hc1_;have hs1:=q9 hg ht hi1 hc1_ hm1;obtain⟨z1,hz1⟩:=aX hc1_;rw[aH hz1] at h_1;rw[dv] at h_1;obtain⟨z1_Leg,z1_Day⟩:=z1;try rw[←hg] at h_1
   try rw[←ht] at h_1
   try dsimp only at h_1
   rw[hb2];cbv;refine AStep.mk (fP hi1) ?_;cbv;refine AGet.mk _ (lX hg ht hi1 hz1) ?_;cbv;obtain⟨x2,hx2,h_1⟩:=ae h_1;try dsimp only at h_1
   refine ACall.mk _ _ rfl (hF _ _ _ (iS hg ht hx2)) (.inl rfl) (nb rfl) ?_;cbv
   cases hb3:x2
   ·rw[aa hb3] at h_1;cbv;obtain rfl:=Option.some.inj h_1;try dsimp only[lr,lrL,lrp,aZ] at h
    obtain rfl:=Option.some.inj h;exact ARet.mk trivial hX.symm
   rw[ab hb3] at h_1;cbv;refine AStep.mk (fP hi1) ?_;cbv;refine AGet.mk _ (lX hg ht hi1 hz1) ?_;cbv;obtain⟨x3,hx3,h_1⟩:=ae h_1;try dsimp only at h_1
   refine ACall.mk _ _ rfl (hF _ _ _ (gU hg ht hx3)) (.inl rfl) (nb rfl) ?_;cbv;try rw[hg] at h_1
   try rw[ht] at h_1
   refine⟨⟨(k1+1,(wrap .i64 (add v2 1)),x3),hc1_,hs1,h_1⟩,Wk.of [(0,some 0)] rfl rfl ?_ ?_,bc hc1_⟩
   ·cbv;all_goals exact⟨⟨_,rfl,rfl⟩,⟨_,rfl,rfl⟩,⟨_,rfl,rfl⟩,⟨_,rfl,rfl⟩,trivial⟩
   cbv;all_goals exact⟨⟨_,rfl,_,rfl,rfl,rfl,rfl,trivial⟩,trivial⟩
  have hb2:lt v2 (llen (r_Trip a1))=false:=lv hg ht hi1 hc1_;rw[List.drop_of_length_le (Nat.le_of_not_lt hc1_)] at h_1;rw[dv] at h_1;try rw[←hg] at h_1
  try rw[←ht] at h_1
  try dsimp only at h_1
  rw[hb2];cbv;refine⟨v1,Wk.of [] rfl rfl ?_ ?_,(Option.some.inj h_1).symm⟩
  ·cbv;all_goals exact⟨⟨_,rfl,rfl⟩,trivial⟩
  cbv;all_goals exact trivial
 rintro y1 hy1;replace hy1:=hy1.symm;subst hy1;try dsimp only[lr,lrL,lrp,aZ] at h
 cbv;obtain rfl:=Option.some.inj h;exact ARet.mk trivial hX.symm
def Gy:J:=js [jq 4 (.box 1),jq 6 (.mv (.k (.c (.n 6))))] [0,2,4] (js [jq 16 (.bsl 6 []),jm 7 16] [0,2,4,7] (js [jm 17 0,jl 18 3 4,jq 19 (.callm 70 true 17 [18]),jm 8 19] [0,2,4,7,8] (js [jm 20 0,jl 21 3 4,jq 22 (.callm 70 true 20 [21]),jm 9 22] [0,2,4,7,8,9] (js [jm 23 0,jq 24 (.callm 90 true 23 [(ki 60)]),jb 25 .mul .i (ki 60) 24,jm 10 25] [0,2,4,7,8,9,10] (js [jl 27 3 4,jm 28 8,jm 29 9,jm 30 10,jc 31 14 [27,28,29,30],jm 26 31,jq 32 (.ext 0 26),jq 33 (.ext 1 26),jm 11 32,jm 12 33] [0,2,4,7,8,9,10,11] (js [jm 34 7,jm 35 2,jm 36 10,jm 37 8,jq 38 (.bld [.r (.v (.int .i64 0)),.r (.v (.int .i64 0)),.r (.v (.int .i64 0)),.r (.v (.string .empty)),.r (.v (.int .i64 0)),.r (.v (.int .i64 0))] [(0,1,35),(1,1,36),(2,1,(ki 1)),(3,1,37)]),jq 39 (.bsl 6 [38]),jq 40 (.app 6 56 true 34 39),jm 7 40] [0,2,4,7,9,10,11] (.seq (js [jm 13 (ki 0)] [0,2,4,7,9,10,11,13] (.bl 0 (.seq (js [jm 41 13,jm 42 11,jq 43 (.len false 42),jb 44 .lss .i 41 43] [0,2,4,7,9,10,11,13,44] (.cond 44 .skip (.exit 0))) (.seq (.block 1 (.seq (.reg (some [[],[],[],[],[],[3,4],[3,4,5],[2,3,4,5,6],[],[],[8,9],[8,9,10],[1,2,3,4,5,6,7,8,9,10,11],[1,2,3,4,5,6,7,8,9,10,11,12],[0,1,2,3,4,5,6,7,8,9,10,11,12,13],[0,1,2,3,4,5,6,7,8,9,10,11,12,13,14]]) [jm 47 7,jm 48 2,jl 49 3 4,jm 50 11,jm 51 13,ja 52 2 50 51,jl 53 2 52,jc 54 62 [49,53],jm 55 11,jm 56 13,ja 57 2 55 56,jl 58 2 57,jq 59 (.bld [.r (.v (.int .i64 0)),.r (.v (.int .i64 0)),.r (.v (.int .i64 0)),.r (.v (.string .empty)),.r (.v (.int .i64 0)),.r (.v (.int .i64 0))] [(0,1,48),(1,1,54),(2,1,(ki 3)),(4,2,58)]),jq 60 (.bsl 6 [59]),jq 61 (.app 6 56 true 47 60),jm 7 61] [0,2,4,7,9,10,11,13]) (.reg (some [[],[],[],[],[],[3,4],[3,4,5],[2,3,4,5,6],[],[],[8,9],[8,9,10],[1,2,3,4,5,6,7,8,9,10,11],[1,2,3,4,5,6,7,8,9,10,11,12],[0,1,2,3,4,5,6,7,8,9,10,11,12,13],[0,1,2,3,4,5,6,7,8,9,10,11,12,13,14]]) [jm 62 7,jm 63 2,jl 64 3 4,jm 65 11,jm 66 13,ja 67 2 65 66,jl 68 2 67,jc 69 63 [64,68],jm 70 11,jm 71 13,ja 72 2 70 71,jl 73 2 72,jq 74 (.bld [.r (.v (.int .i64 0)),.r (.v (.int .i64 0)),.r (.v (.int .i64 0)),.r (.v (.string .empty)),.r (.v (.int .i64 0)),.r (.v (.int .i64 0))] [(0,1,63),(1,1,69),(2,1,(ki 2)),(4,2,73)]),jq 75 (.bsl 6 [74]),jq 76 (.app 6 56 true 62 75),jm 7 76] [0,2,4,7,9,10,11,13]))) (.reg none [jm 45 13,jb 46 .add .i 45 (ki 1),jm 13 46] [0,2,4,7,9,10,11,13]))))) (.seq (js [jm 77 0,jq 78 (.callm 67 true 77 [(ki 2)]),jm 79 78,ju 80 79 (.mv 11),ju 81 79 (.len false 80),ju 82 79 (.bin .gtr .i 81 (ki 0)),jq 83 (.pick 79 82 kf)] [0,2,4,7,9,10,11,83] (.cond 83 (.reg none [jm 84 7,jm 85 2,jl 86 3 4,jm 87 11,jm 88 10,jc 89 173 [86,87,88],jm 90 9,jq 91 (.bld [.r (.v (.int .i64 0)),.r (.v (.int .i64 0)),
 .r (.v (.int .i64 0)),.r (.v (.string .empty)),.r (.v (.int .i64 0)),.r (.v (.int .i64 0))] [(0,1,85),(1,1,89),(2,1,(ki 4)),(3,1,90)]),jq 92 (.bsl 6 [91]),jq 93 (.app 6 56 true 84 92),jm 7 93] [0,7]) .skip)) (js [jq 94 (.bsl 6 []),jm 14 94] [0,7,14] (.seq (js [jm 15 (ki 0)] [0,7,14,15] (.bl 2 (.seq (js [jm 95 15,jm 96 7,jq 97 (.len false 96),jb 98 .lss .i 95 97] [0,7,14,15,98] (.cond 98 .skip (.exit 2))) (.seq (.block 3 (js [jm 101 0,jq 102 (.callm 67 true 101 [(ki 3)]),jq 103 (.not 102)] [0,7,14,15,103] (.cond 103 (.reg none [jm 104 14,jm 105 7,jm 106 15,ja 107 6 105 106,jl 108 6 107,jq 109 (.bsl 6 [108]),jq 110 (.app 6 56 true 104 109),jm 14 110] [0,7,14,15]) .skip))) (.reg none [jm 99 15,jb 100 .add .i 99 (ki 1),jm 15 100] [0,7,14,15]))))) (js [jm 111 14,jm 6 111] [6] .ret)))))))))))
def Gu:List RV:=[.t 6]
def cX (g:G) (t:TE) (y1:List Scan):Nat→Int→List Int→Int→Int→List Scan→Option ((List Int)×Int×Int×List Scan)
 |0,v13,v10,v11,v12,w4=>
  some (v10,v11,v12,w4)
 |n4+1,v13,v10,v11,v12,w4=>
  cl (cr g t (Cur.mk v10 v11 v12) 3) fun x14=>
  br x14.1
  (
   cX g t y1 n4 (g.wrap .i64 (g.add v13 1)) x14.2.b x14.2.i x14.2.h w4)
  (
   gt y1 (g.nat v13) fun x15=>
   lP ([(Scan.mk x15.Thing x15.At x15.Kind x15.Place (Trip.mk x15.Trip.Leg x15.Trip.Day))]) fun(l17:List Scan)=>
   gd (((w4.length+l17.length)*56≤70368744177664))<|
   lP (w4++l17) fun(l18:List Scan)=>
   cX g t y1 n4 (g.wrap .i64 (g.add v13 1)) x14.2.b x14.2.i x14.2.h l18)
def cW (g:G) (t:TE) (y1:List Scan):Nat→Int→List Int→Int→Int→List Scan→Option ((List Int)×Int×Int×List Scan)
 |0,v9,v6,v7,v8,w3=>
  some (v6,v7,v8,w3)
 |n3+1,v9,v6,v7,v8,w3=>
  cl (cr g t (Cur.mk v6 v7 v8) 3) fun x12=>
  br x12.1
  (
   cW g t y1 n3 (g.wrap .i64 (g.add v9 1)) x12.2.b x12.2.i x12.2.h w3)
  (
   gt y1 (g.nat v9) fun x13=>
   lP ([(Scan.mk x13.Thing x13.At x13.Kind x13.Place (Trip.mk x13.Trip.Leg x13.Trip.Day))]) fun(l14:List Scan)=>
   gd (((w3.length+l14.length)*56≤70368744177664))<|
   lP (w3++l14) fun(l15:List Scan)=>
   cW g t y1 n3 (g.wrap .i64 (g.add v9 1)) x12.2.b x12.2.i x12.2.h l15)
def cU (g:G) (t:TE) (l9:List Scan):Nat→Int→List Int→Int→Int→List Scan→Option ((List Int)×Int×Int×List Scan)
 |0,v5,v2,v3,v4,w2=>
  some (v2,v3,v4,w2)
 |n2+1,v5,v2,v3,v4,w2=>
  cl (cr g t (Cur.mk v2 v3 v4) 3) fun x10=>
  br x10.1
  (
   cU g t l9 n2 (g.wrap .i64 (g.add v5 1)) x10.2.b x10.2.i x10.2.h w2)
  (
   gt l9 (g.nat v5) fun x11=>
   lP ([(Scan.mk x11.Thing x11.At x11.Kind x11.Place (Trip.mk x11.Trip.Leg x11.Trip.Day))]) fun(l11:List Scan)=>
   gd (((w2.length+l11.length)*56≤70368744177664))<|
   lP (w2++l11) fun(l12:List Scan)=>
   cU g t l9 n2 (g.wrap .i64 (g.add v5 1)) x10.2.b x10.2.i x10.2.h l12)
def dD (g:G) (t:TE) (a1:Network) (a2:Int) (x4:(List Trip)×Bool):Nat→Int→List Scan→Option (List Scan)
 |0,v1,w1=>
  some w1
 |n1+1,v1,w1=>
  gt x4.1 (g.nat v1) fun x5=>
  cl (gG g t a1 x5) fun x6=>
  lP ([(Scan.mk a2 x6 3 ByteArray.empty x5)]) fun(l4:List Scan)=>
  gd (((w1.length+l4.length)*56≤70368744177664))<|
  lP (w1++l4) fun(l5:List Scan)=>
  cl (kc g t a1 x5) fun x7=>
  lP ([(Scan.mk a2 x7 2 ByteArray.empty x5)]) fun(l6:List Scan)=>
  gd (((l5.length+l6.length)*56≤70368744177664))<|
  lP (l5++l6) fun(l7:List Scan)=>
  dD g t a1 a2 x4 n1 (g.wrap .i64 (g.add v1 1)) l7
def iN (g:G) (t:TE) (a0:Cur) (a1:Network) (a2:Int):Option ((List Scan)×Cur):=
 lP ([]) fun(l1:List Scan)=>
 cl (lM g t a0 a1) fun x1=>
 cl (lM g t (Cur.mk x1.2.b x1.2.i x1.2.h) a1) fun x2=>
 cl (aF g t (Cur.mk x2.2.b x2.2.i x2.2.h) 60) fun x3=>
 cl (ka g t a1 x1.1 x2.1 (g.wrap .i64 (g.mul 60 x3.1))) fun x4=>
 lP ([(Scan.mk a2 (g.wrap .i64 (g.mul 60 x3.1)) 1 x1.1 (Trip.mk 0 0))]) fun(l2:List Scan)=>
 gd (((l1.length+l2.length)*56≤70368744177664))<|
 lP (l1++l2) fun(l3:List Scan)=>
 gd (((g.int (g.dlen (t.d_Trip x4.1)))≤9223372036854775807))<|
 cl (dD g t a1 a2 x4 (ap 0 (g.int (g.dlen (t.d_Trip x4.1)))) 0 l3) fun y1=>
 cl (cr g t (Cur.mk x3.2.b x3.2.i x3.2.h) 2) fun x8=>
 br x8.1
 (
  br (g.lt 0 (g.int (g.dlen (t.d_Trip x4.1))))
  (
   cl (j9 g t a1 x4.1 (g.wrap .i64 (g.mul 60 x3.1))) fun x9=>
   lP ([(Scan.mk a2 x9 4 x2.1 (Trip.mk 0 0))]) fun(l8:List Scan)=>
   gd (((y1.length+l8.length)*56≤70368744177664))<|
   lP (y1++l8) fun(l9:List Scan)=>
   lP ([]) fun(l10:List Scan)=>
   gd (((g.int (g.dlen (t.d_Scan l9)))≤9223372036854775807))<|
   cl (cU g t l9 (ap 0 (g.int (g.dlen (t.d_Scan l9)))) 0 x8.2.b x8.2.i x8.2.h l10) fun y2=>
   some ((y2.2.2.2,(Cur.mk y2.1 y2.2.1 y2.2.2.1))))
  (
   lP ([]) fun(l13:List Scan)=>
   gd (((g.int (g.dlen (t.d_Scan y1)))≤9223372036854775807))<|
   cl (cW g t y1 (ap 0 (g.int (g.dlen (t.d_Scan y1)))) 0 x8.2.b x8.2.i x8.2.h l13) fun y3=>
   some ((y3.2.2.2,(Cur.mk y3.1 y3.2.1 y3.2.2.1)))))
 (
  lP ([]) fun(l16:List Scan)=>
  gd (((g.int (g.dlen (t.d_Scan y1)))≤9223372036854775807))<|
  cl (cX g t y1 (ap 0 (g.int (g.dlen (t.d_Scan y1)))) 0 x8.2.b x8.2.i x8.2.h l16) fun y4=>
  some ((y4.2.2.2,(Cur.mk y4.1 y4.2.1 y4.2.2.1))))
theorem pZ {g:G} {t:TE} {a0:Cur} {a1:Network} {a2:Int} {r:(List Scan)×Cur} (hg:g=G.real) (ht:t=TE.real) (h:iN g t a0 a1 a2=some r):FnM Tryz.prog 138 (.p (Cur.ds t a0)) [.g (Network.rs t a1),.c (.v (.int .i64 a2))] (.c (.o 6 (t.d_Scan r.1))) (.p (Cur.ds t r.2)):=by
 obtain⟨X,hX⟩:=aC (.c (.o 6 (t.d_Scan r.1)):X);obtain⟨Y,hY⟩:=aC (.p (Cur.ds t r.2):AM);rw[←hX,←hY];refine eI (rvs:=Gu) (j:=Gy) Tryz.func138 rfl (by kernel_rfl) (nb rfl) (by kernel_rfl) af ?_;intro g2 F hg2 hF;obtain rfl:g2=g:=hg2.unique.trans hg.symm;clear hg2;obtain⟨wrap,lt,_,_,_,_,_,_,_,_,_,_,int,add,_,mul,_,_,_,_,_,_,_,_,dlen,_,_,_,rd⟩:=g2;obtain⟨r_U8,_,_,d_Scan,r_Leg,_,r_I64,_,r_Trip,d_Trip⟩:=t
 obtain⟨a0_b,a0_i,a0_h⟩:=a0;obtain⟨a1_Legs,a1_Off,a1_Change⟩:=a1;unfold iN at h;try dsimp only at h
 cbv;obtain⟨l1,hl1,h⟩:=ah h;try dsimp only at h
 refine ANew.mk (d_Scan l1) (dlen (d_Scan l1)) (by rw[←hl1];exact aG hg ht []) (by rw[←hl1];exact ax hg ht []) ?_;cbv;obtain⟨x1,hx1,h⟩:=ae h;obtain⟨x1_1,⟨x1_2_b,x1_2_i,x1_2_h⟩⟩:=x1;try dsimp only at h
 refine ACallM.mk _ _ _ _ rfl rfl (hF _ _ _ (nY hg ht hx1)) rfl (nb rfl) (nb rfl) ?_;cbv;obtain⟨x2,hx2,h⟩:=ae h;obtain⟨x2_1,⟨x2_2_b,x2_2_i,x2_2_h⟩⟩:=x2;try dsimp only at h
 refine ACallM.mk _ _ _ _ rfl rfl (hF _ _ _ (nY hg ht hx2)) rfl (nb rfl) (nb rfl) ?_;cbv;obtain⟨x3,hx3,h⟩:=ae h;obtain⟨x3_1,⟨x3_2_b,x3_2_i,x3_2_h⟩⟩:=x3;try dsimp only at h
 refine ACallM.mk _ _ _ _ rfl rfl (hF _ _ _ (ay hg ht hx3)) rfl (nb rfl) (nb rfl) ?_;cbv;obtain⟨x4,hx4,h⟩:=ae h;obtain⟨x4_1,x4_2⟩:=x4;try dsimp only at h
 refine ACall.mk _ _ rfl (hF _ _ _ (wd hg ht hx4)) (.inl rfl) (nb rfl) ?_;cbv;obtain⟨l2,hl2,h⟩:=ah h;try dsimp only at h
 refine ANew.mk (d_Scan l2) (dlen (d_Scan l2)) (by rw[←hl2];exact aG hg ht [(Scan.mk a2 (wrap .i64 (mul 60 x3_1)) 1 x1_1 (Trip.mk 0 0))]) (by rw[←hl2];exact ax hg ht [(Scan.mk a2 (wrap .i64 (mul 60 x3_1)) 1 x1_1 (Trip.mk 0 0))]) ?_;cbv;obtain⟨hc7,h⟩:=ak h;refine AStep.mk ⟨⟨rfl,(ac hg ht _)⟩,(au hg ht (ac hg ht _) rfl hc7)⟩ ?_;cbv;obtain⟨l3,hl3,h⟩:=ah h;try dsimp only at h
 refine ANew.mk (d_Scan l3) (dlen (d_Scan l3)) (by rw[←hl3];exact aR hg ht (ac hg ht _) rfl) (by rw[←hl3];exact aJ hg ht (ac hg ht _) rfl) ?_;cbv;obtain⟨hB1,h⟩:=ak h;obtain⟨o1,ho1,h⟩:=ae h;try dsimp only at h
 try rw[hg] at ho1
 try rw[ht] at ho1
 refine ABL.mk {p:Nat×Int×List Scan//p.1=ap p.2.1 (int (dlen (d_Trip x4_1)))∧0≤p.2.1∧dD G.real TE.real (Network.mk a1_Legs a1_Off a1_Change) a2 (x4_1,x4_2) p.1 p.2.1 p.2.2=some o1} (fun⟨⟨n1,v1,w1⟩,_⟩=>({sl:=[(0,.c (.p 3 3 0 0)),(2,.c (.r (.v (.int .i64 a2)))),(4,.c (.p 0 3 0 0)),(7,.c (.f 1 6 0 (dlen (d_Scan w1)))),(9,.c (.r (.v (.string x2_1)))),(10,.c (.r (.v (.int .i64 (wrap .i64 (mul 60 x3_1)))))),(11,.c (.f 2 2 0 (dlen (d_Trip x4_1)))),(13,.c (.r (.v (.int .i64 v1))))],tab:=[(0,some (.foc 3 [] [.r (.s 6 (r_Leg a1_Legs)),.r (.s 1 (r_I64 a1_Off)),.r (.v (.int .i64 a1_Change))] [])),(1,some (.arr 6 (d_Scan w1))),(2,some (.arr 2 (d_Trip x4_1))),(3,some (.foc 3 [] [.r (.s 1 (r_U8 x3_2_b)),.r (.v (.int .i64 x3_2_i)),.r (.v (.int .i64 x3_2_h))] []))]}:St)) 4 (fun p=>p.1.1) ⟨(ap 0 (int (dlen (d_Trip x4_1))),0,l3),rfl,Int.le_refl _,ho1⟩ (List Scan) (fun y1=>({sl:=[(0,.c (.p 3 3 0 0)),(2,.c (.r (.v (.int .i64 a2)))),(4,.c (.p 0 3 0 0)),(7,.c (.f 1 6 0 (dlen (d_Scan y1)))),(9,.c (.r (.v (.string x2_1)))),(10,.c (.r (.v (.int .i64 (wrap .i64 (mul 60 x3_1)))))),(11,.c (.f 2 2 0 (dlen (d_Trip x4_1))))],tab:=[(0,some (.foc 3 [] [.r (.s 6 (r_Leg a1_Legs)),.r (.s 1 (r_I64 a1_Off)),.r (.v (.int .i64 a1_Change))] [])),(1,some (.arr 6 (d_Scan y1))),(2,some (.arr 2 (d_Trip x4_1))),(3,some (.foc 3 [] [.r (.s 1 (r_U8 x3_2_b)),.r (.v (.int .i64 x3_2_i)),.r (.v (.int .i64 x3_2_h))] []))]}:St)) 4 (fun y=>o1=y) ?_ ?_ ?_
 ·refine Wk.of [(0,some 4),(1,some 516),(2,some 324),(3,some 3)] rfl rfl ?_ ?_
  ·cbv;all_goals exact⟨⟨_,rfl,rfl⟩,⟨_,rfl,rfl⟩,⟨_,rfl,rfl⟩,⟨_,rfl,rfl⟩,⟨_,rfl,rfl⟩,⟨_,rfl,rfl⟩,⟨_,rfl,rfl⟩,⟨_,rfl,rfl⟩,trivial⟩
  cbv;all_goals exact⟨⟨_,rfl,_,rfl,rfl,rfl,rfl,trivial⟩,⟨_,rfl,rfl⟩,⟨_,rfl,rfl⟩,⟨_,rfl,_,rfl,rfl,rfl,rfl,trivial⟩,trivial⟩
 ·rintro⟨⟨n1,v1,w1⟩,hn1,hi1,h_1⟩ hq1;try dsimp only at hn1 hi1 h_1
  clear hq1;cbv;rcases n1 with _|n1
  ·have hb1:lt v1 (int (dlen (d_Trip x4_1)))=false:=ba hg hn1;rw[dD] at h_1;try rw[←hg] at h_1
   try rw[←ht] at h_1
   try dsimp only at h_1
   rw[hb1];cbv;refine⟨w1,Wk.of [(0,some 0),(1,some 1),(2,some 2),(3,some 3)] rfl rfl ?_ ?_,(Option.some.inj h_1).symm⟩
   ·cbv;all_goals exact⟨⟨_,rfl,rfl⟩,⟨_,rfl,rfl⟩,⟨_,rfl,rfl⟩,⟨_,rfl,rfl⟩,⟨_,rfl,rfl⟩,⟨_,rfl,rfl⟩,⟨_,rfl,rfl⟩,trivial⟩
   cbv;all_goals exact⟨⟨_,rfl,_,rfl,rfl,rfl,rfl,trivial⟩,⟨_,rfl,rfl⟩,⟨_,rfl,rfl⟩,⟨_,rfl,_,rfl,rfl,rfl,rfl,trivial⟩,trivial⟩
  have hb1:lt v1 (int (dlen (d_Trip x4_1)))=true:=bt hg hn1;have hl1:=cR hn1;have hs1:=bS hg hn1 hi1 hB1 (by decide);rw[dD] at h_1;try rw[←hg] at h_1
  try rw[←ht] at h_1
  try dsimp only at h_1
  rw[hb1];cbv;refine AStep.mk (di hg hi1 hl1) ?_;cbv;obtain⟨x5,hx5,h_1⟩:=aE h_1;obtain⟨x5_Leg,x5_Day⟩:=x5;try dsimp only at h_1
  refine AGet.mk _ (kV hg ht hx5) ?_;cbv;obtain⟨x6,hx6,h_1⟩:=ae h_1;try dsimp only at h_1
  refine ACall.mk _ _ rfl (hF _ _ _ (nR hg ht hx6)) (.inl rfl) (nb rfl) ?_;cbv;refine AStep.mk (di hg hi1 hl1) ?_;cbv;refine AGet.mk _ (kV hg ht hx5) ?_;cbv;obtain⟨l4,hl4,h_1⟩:=ah h_1;try dsimp only at h_1
  refine ANew.mk (d_Scan l4) (dlen (d_Scan l4)) (by rw[←hl4];exact aG hg ht [(Scan.mk a2 x6 3 ByteArray.empty (Trip.mk x5_Leg x5_Day))]) (by rw[←hl4];exact ax hg ht [(Scan.mk a2 x6 3 ByteArray.empty (Trip.mk x5_Leg x5_Day))]) ?_;cbv;obtain⟨hc2,h_1⟩:=ak h_1;refine AStep.mk ⟨⟨rfl,(ac hg ht _)⟩,(au hg ht (ac hg ht _) rfl hc2)⟩ ?_;cbv;obtain⟨l5,hl5,h_1⟩:=ah h_1;try dsimp only at h_1
  refine ANew.mk (d_Scan l5) (dlen (d_Scan l5)) (by rw[←hl5];exact aR hg ht (ac hg ht _) rfl) (by rw[←hl5];exact aJ hg ht (ac hg ht _) rfl) ?_;cbv;refine AStep.mk (di hg hi1 hl1) ?_;cbv;refine AGet.mk _ (kV hg ht hx5) ?_;cbv;obtain⟨x7,hx7,h_1⟩:=ae h_1;try dsimp only at h_1
  refine ACall.mk _ _ rfl (hF _ _ _ (rh hg ht hx7)) (.inl rfl) (nb rfl) ?_;cbv;refine AStep.mk (di hg hi1 hl1) ?_;cbv;refine AGet.mk _ (kV hg ht hx5) ?_;cbv;obtain⟨l6,hl6,h_1⟩:=ah h_1;try dsimp only at h_1
  refine ANew.mk (d_Scan l6) (dlen (d_Scan l6)) (by rw[←hl6];exact aG hg ht [(Scan.mk a2 x7 2 ByteArray.empty (Trip.mk x5_Leg x5_Day))]) (by rw[←hl6];exact ax hg ht [(Scan.mk a2 x7 2 ByteArray.empty (Trip.mk x5_Leg x5_Day))]) ?_;cbv;obtain⟨hc1,h_1⟩:=ak h_1;refine AStep.mk ⟨⟨rfl,(ac hg ht _)⟩,(au hg ht (ac hg ht _) rfl hc1)⟩ ?_;cbv;obtain⟨l7,hl7,h_1⟩:=ah h_1;try dsimp only at h_1
  refine ANew.mk (d_Scan l7) (dlen (d_Scan l7)) (by rw[←hl7];exact aR hg ht (ac hg ht _) rfl) (by rw[←hl7];exact aJ hg ht (ac hg ht _) rfl) ?_;cbv;try rw[hg] at h_1
  try rw[ht] at h_1
  refine⟨⟨(n1,(wrap .i64 (add v1 1)),l7),hs1.1,hs1.2,h_1⟩,Wk.of [(0,some 0),(1,some 548),(2,some 2),(3,some 3)] rfl rfl ?_ ?_,Nat.lt_succ_self _⟩
  ·cbv;all_goals exact⟨⟨_,rfl,rfl⟩,⟨_,rfl,rfl⟩,⟨_,rfl,rfl⟩,⟨_,rfl,rfl⟩,⟨_,rfl,rfl⟩,⟨_,rfl,rfl⟩,⟨_,rfl,rfl⟩,⟨_,rfl,rfl⟩,trivial⟩
  cbv;all_goals exact⟨⟨_,rfl,_,rfl,rfl,rfl,rfl,trivial⟩,⟨_,rfl,rfl⟩,⟨_,rfl,rfl⟩,⟨_,rfl,_,rfl,rfl,rfl,rfl,trivial⟩,trivial⟩
 rintro y1 hy1;replace hy1:=hy1.symm;subst hy1;try dsimp only[lr,lrL,lrp,aZ] at h
 cbv;obtain⟨x8,hx8,h⟩:=ae h;obtain⟨x8_1,⟨x8_2_b,x8_2_i,x8_2_h⟩⟩:=x8;try dsimp only at h
 refine ACallM.mk _ _ _ _ rfl rfl (hF _ _ _ (bZ hg ht hx8)) rfl (nb rfl) (nb rfl) ?_;cbv;have hb2:x8_1=true∨x8_1=false:=by cases x8_1<;>simp
 rcases hb2 with hb2|hb2
 ·rw[ab hb2] at h;have hK_:=h;subst hb2;have h:=hK_;clear hK_;cbv;iterate 3 try(rw[hb2];cbv)
  cases hb3:(lt 0 (int (dlen (d_Trip x4_1))))
  ·rw[aa hb3] at h;cbv;obtain⟨l13,hl13,h⟩:=ah h;try dsimp only at h
   refine ANew.mk (d_Scan l13) (dlen (d_Scan l13)) (by rw[←hl13];exact aG hg ht []) (by rw[←hl13];exact ax hg ht []) ?_;cbv;obtain⟨hB3,h⟩:=ak h;obtain⟨o3,ho3,h⟩:=ae h;try dsimp only at h
   try rw[hg] at ho3
   try rw[ht] at ho3
   refine ABL.mk {p:Nat×Int×(List Int)×Int×Int×List Scan//p.1=ap p.2.1 (int (dlen (d_Scan y1)))∧0≤p.2.1∧cW G.real TE.real y1 p.1 p.2.1 p.2.2.1 p.2.2.2.1 p.2.2.2.2.1 p.2.2.2.2.2=some o3} (fun⟨⟨n3,v9,v6,v7,v8,w3⟩,_⟩=>({sl:=[(0,.c (.p 3 3 0 0)),(7,.c (.f 0 6 0 (dlen (d_Scan y1)))),(14,.c (.f 1 6 0 (dlen (d_Scan w3)))),(15,.c (.r (.v (.int .i64 v9))))],tab:=[(0,some (.arr 6 (d_Scan y1))),(1,some (.arr 6 (d_Scan w3))),(3,some (.foc 3 [] [.r (.s 1 (r_U8 v6)),.r (.v (.int .i64 v7)),.r (.v (.int .i64 v8))] []))]}:St)) 4 (fun p=>p.1.1) ⟨(ap 0 (int (dlen (d_Scan y1))),0,x8_2_b,x8_2_i,x8_2_h,l13),rfl,Int.le_refl _,ho3⟩ ((List Int)×Int×Int×List Scan) (fun⟨y3_1,y3_2_1,y3_2_2_1,y3_2_2_2⟩=>({sl:=[(14,.c (.f 0 6 0 (dlen (d_Scan y3_2_2_2))))],tab:=[(0,some (.arr 6 (d_Scan y3_2_2_2))),(3,some (.foc 3 [] [.r (.s 1 (r_U8 y3_1)),.r (.v (.int .i64 y3_2_1)),.r (.v (.int .i64 y3_2_2_1))] []))]}:St)) 4 (fun y=>o3=y) ?_ ?_ ?_
   ·refine Wk.of [(0,some 1),(1,some 116),(3,some 3)] rfl rfl ?_ ?_
    ·cbv;all_goals exact⟨⟨_,rfl,rfl⟩,⟨_,rfl,rfl⟩,⟨_,rfl,rfl⟩,⟨_,rfl,rfl⟩,trivial⟩
    cbv;all_goals exact⟨⟨_,rfl,rfl⟩,⟨_,rfl,rfl⟩,⟨_,rfl,_,rfl,rfl,rfl,rfl,trivial⟩,trivial⟩
   ·rintro⟨⟨n3,v9,v6,v7,v8,w3⟩,hn3,hi3,h_3⟩ hq3;try dsimp only at hn3 hi3 h_3
    clear hq3;cbv;rcases n3 with _|n3
    ·have hb6:lt v9 (int (dlen (d_Scan y1)))=false:=ba hg hn3;rw[cW] at h_3;try rw[←hg] at h_3
     try rw[←ht] at h_3
     try dsimp only at h_3
     rw[hb6];cbv;refine⟨(v6,v7,v8,w3),Wk.of [(0,some 1),(3,some 3)] rfl rfl ?_ ?_,(Option.some.inj h_3).symm⟩
     ·cbv;all_goals exact⟨⟨_,rfl,rfl⟩,trivial⟩
     cbv;all_goals exact⟨⟨_,rfl,rfl⟩,⟨_,rfl,_,rfl,rfl,rfl,rfl,trivial⟩,trivial⟩
    have hb6:lt v9 (int (dlen (d_Scan y1)))=true:=bt hg hn3;have hl3:=cR hn3;have hs3:=bS hg hn3 hi3 hB3 (by decide);rw[cW] at h_3;try rw[←hg] at h_3
    try rw[←ht] at h_3
    try dsimp only at h_3
    rw[hb6];cbv;obtain⟨x12,hx12,h_3⟩:=ae h_3;obtain⟨x12_1,⟨x12_2_b,x12_2_i,x12_2_h⟩⟩:=x12;try dsimp only at h_3
    refine ACallM.mk _ _ _ _ rfl rfl (hF _ _ _ (bZ hg ht hx12)) rfl (nb rfl) (nb rfl) ?_;cbv;have hb7:x12_1=true∨x12_1=false:=by cases x12_1<;>simp
    rcases hb7 with hb7|hb7
    ·rw[ab hb7] at h_3;have hK_:=h_3;subst hb7;have h_3:=hK_;clear hK_;cbv;try rw[hg] at h_3
     try rw[ht] at h_3
     refine⟨⟨(n3,(wrap .i64 (add v9 1)),x12_2_b,x12_2_i,x12_2_h,w3),hs3.1,hs3.2,h_3⟩,Wk.of [(0,some 0),(1,some 1),(3,some 3)] rfl rfl ?_ ?_,Nat.lt_succ_self _⟩
     ·cbv;all_goals exact⟨⟨_,rfl,rfl⟩,⟨_,rfl,rfl⟩,⟨_,rfl,rfl⟩,⟨_,rfl,rfl⟩,trivial⟩
     cbv;all_goals exact⟨⟨_,rfl,rfl⟩,⟨_,rfl,rfl⟩,⟨_,rfl,_,rfl,rfl,rfl,rfl,trivial⟩,trivial⟩
    rw[aa hb7] at h_3;have hK_:=h_3;subst hb7;have h_3:=hK_;clear hK_;cbv;refine AStep.mk (di hg hi3 hl3) ?_;cbv;obtain⟨x13,hx13,h_3⟩:=aE h_3;obtain⟨x13_Thing,x13_At,x13_Kind,x13_Place,⟨x13_Trip_Leg,x13_Trip_Day⟩⟩:=x13;try dsimp only at h_3
    refine AGet.mk _ (aO hg ht hx13) ?_;cbv;obtain⟨l14,hl14,h_3⟩:=ah h_3;try dsimp only at h_3
    refine ANew.mk (d_Scan l14) (dlen (d_Scan l14)) (by rw[←hl14];exact aG hg ht [(Scan.mk x13_Thing x13_At x13_Kind x13_Place (Trip.mk x13_Trip_Leg x13_Trip_Day))]) (by rw[←hl14];exact ax hg ht [(Scan.mk x13_Thing x13_At x13_Kind x13_Place (Trip.mk x13_Trip_Leg x13_Trip_Day))]) ?_;cbv;obtain⟨hc5,h_3⟩:=ak h_3;refine AStep.mk ⟨⟨rfl,(ac hg ht _)⟩,(au hg ht (ac hg ht _) rfl hc5)⟩ ?_;cbv;obtain⟨l15,hl15,h_3⟩:=ah h_3;try dsimp only at h_3
    refine ANew.mk (d_Scan l15) (dlen (d_Scan l15)) (by rw[←hl15];exact aR hg ht (ac hg ht _) rfl) (by rw[←hl15];exact aJ hg ht (ac hg ht _) rfl) ?_;cbv;try rw[hg] at h_3
    try rw[ht] at h_3
    refine⟨⟨(n3,(wrap .i64 (add v9 1)),x12_2_b,x12_2_i,x12_2_h,l15),hs3.1,hs3.2,h_3⟩,Wk.of [(0,some 0),(1,some 212),(3,some 3)] rfl rfl ?_ ?_,Nat.lt_succ_self _⟩
    ·cbv;all_goals exact⟨⟨_,rfl,rfl⟩,⟨_,rfl,rfl⟩,⟨_,rfl,rfl⟩,⟨_,rfl,rfl⟩,trivial⟩
    cbv;all_goals exact⟨⟨_,rfl,rfl⟩,⟨_,rfl,rfl⟩,⟨_,rfl,_,rfl,rfl,rfl,rfl,trivial⟩,trivial⟩
   rintro⟨y3_1,y3_2_1,y3_2_2_1,y3_2_2_2⟩ hy3;replace hy3:=hy3.symm;subst hy3;try dsimp only[lr,lrL,lrp,aZ] at h
   cbv;obtain rfl:=Option.some.inj h;exact ARetM.mk ⟨rfl,(ac hg ht _)⟩ hX.symm hY.symm
  rw[ab hb3] at h;cbv;refine AStep.mk (Bu ht (d6 hg ht _)) ?_;cbv;obtain⟨x9,hx9,h⟩:=ae h;try dsimp only at h
  refine ACall.mk _ _ (by rw[show rd (d_Trip x4_1) 0 (dlen (d_Trip x4_1))=r_Trip x4_1 from B6 hg ht (d6 hg ht _)];try rfl) (hF _ _ _ (wU hg ht hx9)) (.inr rfl) (nb rfl) ?_
  cbv;obtain⟨l8,hl8,h⟩:=ah h;try dsimp only at h
  refine ANew.mk (d_Scan l8) (dlen (d_Scan l8)) (by rw[←hl8];exact aG hg ht [(Scan.mk a2 x9 4 x2_1 (Trip.mk 0 0))]) (by rw[←hl8];exact ax hg ht [(Scan.mk a2 x9 4 x2_1 (Trip.mk 0 0))]) ?_;cbv;obtain⟨hc4,h⟩:=ak h;refine AStep.mk ⟨⟨rfl,(ac hg ht _)⟩,(au hg ht (ac hg ht _) rfl hc4)⟩ ?_;cbv;obtain⟨l9,hl9,h⟩:=ah h;try dsimp only at h
  refine ANew.mk (d_Scan l9) (dlen (d_Scan l9)) (by rw[←hl9];exact aR hg ht (ac hg ht _) rfl) (by rw[←hl9];exact aJ hg ht (ac hg ht _) rfl) ?_;cbv;obtain⟨l10,hl10,h⟩:=ah h;try dsimp only at h
  refine ANew.mk (d_Scan l10) (dlen (d_Scan l10)) (by rw[←hl10];exact aG hg ht []) (by rw[←hl10];exact ax hg ht []) ?_;cbv;obtain⟨hB2,h⟩:=ak h;obtain⟨o2,ho2,h⟩:=ae h;try dsimp only at h
  try rw[hg] at ho2
  try rw[ht] at ho2
  refine ABL.mk {p:Nat×Int×(List Int)×Int×Int×List Scan//p.1=ap p.2.1 (int (dlen (d_Scan l9)))∧0≤p.2.1∧cU G.real TE.real l9 p.1 p.2.1 p.2.2.1 p.2.2.2.1 p.2.2.2.2.1 p.2.2.2.2.2=some o2} (fun⟨⟨n2,v5,v2,v3,v4,w2⟩,_⟩=>({sl:=[(0,.c (.p 3 3 0 0)),(7,.c (.f 0 6 0 (dlen (d_Scan l9)))),(14,.c (.f 1 6 0 (dlen (d_Scan w2)))),(15,.c (.r (.v (.int .i64 v5))))],tab:=[(0,some (.arr 6 (d_Scan l9))),(1,some (.arr 6 (d_Scan w2))),(3,some (.foc 3 [] [.r (.s 1 (r_U8 v2)),.r (.v (.int .i64 v3)),.r (.v (.int .i64 v4))] []))]}:St)) 4 (fun p=>p.1.1) ⟨(ap 0 (int (dlen (d_Scan l9))),0,x8_2_b,x8_2_i,x8_2_h,l10),rfl,Int.le_refl _,ho2⟩ ((List Int)×Int×Int×List Scan) (fun⟨y2_1,y2_2_1,y2_2_2_1,y2_2_2_2⟩=>({sl:=[(14,.c (.f 0 6 0 (dlen (d_Scan y2_2_2_2))))],tab:=[(0,some (.arr 6 (d_Scan y2_2_2_2))),(3,some (.foc 3 [] [.r (.s 1 (r_U8 y2_1)),.r (.v (.int .i64 y2_2_1)),.r (.v (.int .i64 y2_2_2_1))] []))]}:St)) 4 (fun y=>o2=y) ?_ ?_ ?_
  ·refine Wk.of [(0,some 260),(1,some 292),(3,some 3)] rfl rfl ?_ ?_
   ·cbv;all_goals exact⟨⟨_,rfl,rfl⟩,⟨_,rfl,rfl⟩,⟨_,rfl,rfl⟩,⟨_,rfl,rfl⟩,trivial⟩
   cbv;all_goals exact⟨⟨_,rfl,rfl⟩,⟨_,rfl,rfl⟩,⟨_,rfl,_,rfl,rfl,rfl,rfl,trivial⟩,trivial⟩
  ·rintro⟨⟨n2,v5,v2,v3,v4,w2⟩,hn2,hi2,h_2⟩ hq2;try dsimp only at hn2 hi2 h_2
   clear hq2;cbv;rcases n2 with _|n2
   ·have hb4:lt v5 (int (dlen (d_Scan l9)))=false:=ba hg hn2;rw[cU] at h_2;try rw[←hg] at h_2
    try rw[←ht] at h_2
    try dsimp only at h_2
    rw[hb4];cbv;refine⟨(v2,v3,v4,w2),Wk.of [(0,some 1),(3,some 3)] rfl rfl ?_ ?_,(Option.some.inj h_2).symm⟩
    ·cbv;all_goals exact⟨⟨_,rfl,rfl⟩,trivial⟩
    cbv;all_goals exact⟨⟨_,rfl,rfl⟩,⟨_,rfl,_,rfl,rfl,rfl,rfl,trivial⟩,trivial⟩
   have hb4:lt v5 (int (dlen (d_Scan l9)))=true:=bt hg hn2;have hl2:=cR hn2;have hs2:=bS hg hn2 hi2 hB2 (by decide);rw[cU] at h_2;try rw[←hg] at h_2
   try rw[←ht] at h_2
   try dsimp only at h_2
   rw[hb4];cbv;obtain⟨x10,hx10,h_2⟩:=ae h_2;obtain⟨x10_1,⟨x10_2_b,x10_2_i,x10_2_h⟩⟩:=x10;try dsimp only at h_2
   refine ACallM.mk _ _ _ _ rfl rfl (hF _ _ _ (bZ hg ht hx10)) rfl (nb rfl) (nb rfl) ?_;cbv;have hb5:x10_1=true∨x10_1=false:=by cases x10_1<;>simp
   rcases hb5 with hb5|hb5
   ·rw[ab hb5] at h_2;have hK_:=h_2;subst hb5;have h_2:=hK_;clear hK_;cbv;try rw[hg] at h_2
    try rw[ht] at h_2
    refine⟨⟨(n2,(wrap .i64 (add v5 1)),x10_2_b,x10_2_i,x10_2_h,w2),hs2.1,hs2.2,h_2⟩,Wk.of [(0,some 0),(1,some 1),(3,some 3)] rfl rfl ?_ ?_,Nat.lt_succ_self _⟩
    ·cbv;all_goals exact⟨⟨_,rfl,rfl⟩,⟨_,rfl,rfl⟩,⟨_,rfl,rfl⟩,⟨_,rfl,rfl⟩,trivial⟩
    cbv;all_goals exact⟨⟨_,rfl,rfl⟩,⟨_,rfl,rfl⟩,⟨_,rfl,_,rfl,rfl,rfl,rfl,trivial⟩,trivial⟩
   rw[aa hb5] at h_2;have hK_:=h_2;subst hb5;have h_2:=hK_;clear hK_;cbv;refine AStep.mk (di hg hi2 hl2) ?_;cbv;obtain⟨x11,hx11,h_2⟩:=aE h_2;obtain⟨x11_Thing,x11_At,x11_Kind,x11_Place,⟨x11_Trip_Leg,x11_Trip_Day⟩⟩:=x11;try dsimp only at h_2
   refine AGet.mk _ (aO hg ht hx11) ?_;cbv;obtain⟨l11,hl11,h_2⟩:=ah h_2;try dsimp only at h_2
   refine ANew.mk (d_Scan l11) (dlen (d_Scan l11)) (by rw[←hl11];exact aG hg ht [(Scan.mk x11_Thing x11_At x11_Kind x11_Place (Trip.mk x11_Trip_Leg x11_Trip_Day))]) (by rw[←hl11];exact ax hg ht [(Scan.mk x11_Thing x11_At x11_Kind x11_Place (Trip.mk x11_Trip_Leg x11_Trip_Day))]) ?_;cbv;obtain⟨hc3,h_2⟩:=ak h_2;refine AStep.mk ⟨⟨rfl,(ac hg ht _)⟩,(au hg ht (ac hg ht _) rfl hc3)⟩ ?_;cbv;obtain⟨l12,hl12,h_2⟩:=ah h_2;try dsimp only at h_2
   refine ANew.mk (d_Scan l12) (dlen (d_Scan l12)) (by rw[←hl12];exact aR hg ht (ac hg ht _) rfl) (by rw[←hl12];exact aJ hg ht (ac hg ht _) rfl) ?_;cbv;try rw[hg] at h_2
   try rw[ht] at h_2
   refine⟨⟨(n2,(wrap .i64 (add v5 1)),x10_2_b,x10_2_i,x10_2_h,l12),hs2.1,hs2.2,h_2⟩,Wk.of [(0,some 0),(1,some 212),(3,some 3)] rfl rfl ?_ ?_,Nat.lt_succ_self _⟩
   ·cbv;all_goals exact⟨⟨_,rfl,rfl⟩,⟨_,rfl,rfl⟩,⟨_,rfl,rfl⟩,⟨_,rfl,rfl⟩,trivial⟩
   cbv;all_goals exact⟨⟨_,rfl,rfl⟩,⟨_,rfl,rfl⟩,⟨_,rfl,_,rfl,rfl,rfl,rfl,trivial⟩,trivial⟩
  rintro⟨y2_1,y2_2_1,y2_2_2_1,y2_2_2_2⟩ hy2;replace hy2:=hy2.symm;subst hy2;try dsimp only[lr,lrL,lrp,aZ] at h
  cbv;obtain rfl:=Option.some.inj h;exact ARetM.mk ⟨rfl,(ac hg ht _)⟩ hX.symm hY.symm
 rw[aa hb2] at h;have hK_:=h;subst hb2;have h:=hK_;clear hK_;cbv;iterate 3 try(rw[hb2];cbv)
 obtain⟨l16,hl16,h⟩:=ah h;try dsimp only at h
 refine ANew.mk (d_Scan l16) (dlen (d_Scan l16)) (by rw[←hl16];exact aG hg ht []) (by rw[←hl16];exact ax hg ht []) ?_;cbv;obtain⟨hB4,h⟩:=ak h;obtain⟨o4,ho4,h⟩:=ae h;try dsimp only at h
 try rw[hg] at ho4
 try rw[ht] at ho4
 refine ABL.mk {p:Nat×Int×(List Int)×Int×Int×List Scan//p.1=ap p.2.1 (int (dlen (d_Scan y1)))∧0≤p.2.1∧cX G.real TE.real y1 p.1 p.2.1 p.2.2.1 p.2.2.2.1 p.2.2.2.2.1 p.2.2.2.2.2=some o4} (fun⟨⟨n4,v13,v10,v11,v12,w4⟩,_⟩=>({sl:=[(0,.c (.p 3 3 0 0)),(7,.c (.f 0 6 0 (dlen (d_Scan y1)))),(14,.c (.f 1 6 0 (dlen (d_Scan w4)))),(15,.c (.r (.v (.int .i64 v13))))],tab:=[(0,some (.arr 6 (d_Scan y1))),(1,some (.arr 6 (d_Scan w4))),(3,some (.foc 3 [] [.r (.s 1 (r_U8 v10)),.r (.v (.int .i64 v11)),.r (.v (.int .i64 v12))] []))]}:St)) 4 (fun p=>p.1.1) ⟨(ap 0 (int (dlen (d_Scan y1))),0,x8_2_b,x8_2_i,x8_2_h,l16),rfl,Int.le_refl _,ho4⟩ ((List Int)×Int×Int×List Scan) (fun⟨y4_1,y4_2_1,y4_2_2_1,y4_2_2_2⟩=>({sl:=[(14,.c (.f 0 6 0 (dlen (d_Scan y4_2_2_2))))],tab:=[(0,some (.arr 6 (d_Scan y4_2_2_2))),(3,some (.foc 3 [] [.r (.s 1 (r_U8 y4_1)),.r (.v (.int .i64 y4_2_1)),.r (.v (.int .i64 y4_2_2_1))] []))]}:St)) 4 (fun y=>o4=y) ?_ ?_ ?_
 ·refine Wk.of [(0,some 1),(1,some 116),(3,some 3)] rfl rfl ?_ ?_
  ·cbv;all_goals exact⟨⟨_,rfl,rfl⟩,⟨_,rfl,rfl⟩,⟨_,rfl,rfl⟩,⟨_,rfl,rfl⟩,trivial⟩
  cbv;all_goals exact⟨⟨_,rfl,rfl⟩,⟨_,rfl,rfl⟩,⟨_,rfl,_,rfl,rfl,rfl,rfl,trivial⟩,trivial⟩
 ·rintro⟨⟨n4,v13,v10,v11,v12,w4⟩,hn4,hi4,h_4⟩ hq4;try dsimp only at hn4 hi4 h_4
  clear hq4;cbv;rcases n4 with _|n4
  ·have hb8:lt v13 (int (dlen (d_Scan y1)))=false:=ba hg hn4;rw[cX] at h_4;try rw[←hg] at h_4
   try rw[←ht] at h_4
   try dsimp only at h_4
   rw[hb8];cbv;refine⟨(v10,v11,v12,w4),Wk.of [(0,some 1),(3,some 3)] rfl rfl ?_ ?_,(Option.some.inj h_4).symm⟩
   ·cbv;all_goals exact⟨⟨_,rfl,rfl⟩,trivial⟩
   cbv;all_goals exact⟨⟨_,rfl,rfl⟩,⟨_,rfl,_,rfl,rfl,rfl,rfl,trivial⟩,trivial⟩
  have hb8:lt v13 (int (dlen (d_Scan y1)))=true:=bt hg hn4;have hl4:=cR hn4;have hs4:=bS hg hn4 hi4 hB4 (by decide);rw[cX] at h_4;try rw[←hg] at h_4
  try rw[←ht] at h_4
  try dsimp only at h_4
  rw[hb8];cbv;obtain⟨x14,hx14,h_4⟩:=ae h_4;obtain⟨x14_1,⟨x14_2_b,x14_2_i,x14_2_h⟩⟩:=x14;try dsimp only at h_4
  refine ACallM.mk _ _ _ _ rfl rfl (hF _ _ _ (bZ hg ht hx14)) rfl (nb rfl) (nb rfl) ?_;cbv;have hb9:x14_1=true∨x14_1=false:=by cases x14_1<;>simp
  rcases hb9 with hb9|hb9
  ·rw[ab hb9] at h_4;have hK_:=h_4;subst hb9;have h_4:=hK_;clear hK_;cbv;try rw[hg] at h_4
   try rw[ht] at h_4
   refine⟨⟨(n4,(wrap .i64 (add v13 1)),x14_2_b,x14_2_i,x14_2_h,w4),hs4.1,hs4.2,h_4⟩,Wk.of [(0,some 0),(1,some 1),(3,some 3)] rfl rfl ?_ ?_,Nat.lt_succ_self _⟩
   ·cbv;all_goals exact⟨⟨_,rfl,rfl⟩,⟨_,rfl,rfl⟩,⟨_,rfl,rfl⟩,⟨_,rfl,rfl⟩,trivial⟩
   cbv;all_goals exact⟨⟨_,rfl,rfl⟩,⟨_,rfl,rfl⟩,⟨_,rfl,_,rfl,rfl,rfl,rfl,trivial⟩,trivial⟩
  rw[aa hb9] at h_4;have hK_:=h_4;subst hb9;have h_4:=hK_;clear hK_;cbv;refine AStep.mk (di hg hi4 hl4) ?_;cbv;obtain⟨x15,hx15,h_4⟩:=aE h_4;obtain⟨x15_Thing,x15_At,x15_Kind,x15_Place,⟨x15_Trip_Leg,x15_Trip_Day⟩⟩:=x15;try dsimp only at h_4
  refine AGet.mk _ (aO hg ht hx15) ?_;cbv;obtain⟨l17,hl17,h_4⟩:=ah h_4;try dsimp only at h_4
  refine ANew.mk (d_Scan l17) (dlen (d_Scan l17)) (by rw[←hl17];exact aG hg ht [(Scan.mk x15_Thing x15_At x15_Kind x15_Place (Trip.mk x15_Trip_Leg x15_Trip_Day))]) (by rw[←hl17];exact ax hg ht [(Scan.mk x15_Thing x15_At x15_Kind x15_Place (Trip.mk x15_Trip_Leg x15_Trip_Day))]) ?_;cbv;obtain⟨hc6,h_4⟩:=ak h_4;refine AStep.mk ⟨⟨rfl,(ac hg ht _)⟩,(au hg ht (ac hg ht _) rfl hc6)⟩ ?_;cbv;obtain⟨l18,hl18,h_4⟩:=ah h_4;try dsimp only at h_4
  refine ANew.mk (d_Scan l18) (dlen (d_Scan l18)) (by rw[←hl18];exact aR hg ht (ac hg ht _) rfl) (by rw[←hl18];exact aJ hg ht (ac hg ht _) rfl) ?_;cbv;try rw[hg] at h_4
  try rw[ht] at h_4
  refine⟨⟨(n4,(wrap .i64 (add v13 1)),x14_2_b,x14_2_i,x14_2_h,l18),hs4.1,hs4.2,h_4⟩,Wk.of [(0,some 0),(1,some 212),(3,some 3)] rfl rfl ?_ ?_,Nat.lt_succ_self _⟩
  ·cbv;all_goals exact⟨⟨_,rfl,rfl⟩,⟨_,rfl,rfl⟩,⟨_,rfl,rfl⟩,⟨_,rfl,rfl⟩,trivial⟩
  cbv;all_goals exact⟨⟨_,rfl,rfl⟩,⟨_,rfl,rfl⟩,⟨_,rfl,_,rfl,rfl,rfl,rfl,trivial⟩,trivial⟩
 rintro⟨y4_1,y4_2_1,y4_2_2_1,y4_2_2_2⟩ hy4;replace hy4:=hy4.symm;subst hy4;try dsimp only[lr,lrL,lrp,aZ] at h
 cbv;obtain rfl:=Option.some.inj h;exact ARetM.mk ⟨rfl,(ac hg ht _)⟩ hX.symm hY.symm
def Ic:J:=js [jm 2 (ki 0)] [0] (js [jm 3 0,jq 4 (.bslr 1 [(.k (V.i (-1))),(ki 0),(ki 1),(ki 2),(ki 255),(ki 1440),(ki 86400),(ki 86401),(ki 999999999),(ki 1000000000),(ki 1000000001),(.k (V.i (-1000000001))),(ki 9223372036854775807),(.k (V.i (-9223372036854775808)))]),jq 5 (.callm 72 true 3 [4]),jm 2 5] [2] .ret)
def Gc:List RV:=[.t 2]
def mt (g:G) (t:TE) (a0:Cur):Option (Int×Cur):=
 lP ([(-1),0,1,2,255,1440,86400,86401,999999999,1000000000,1000000001,(-1000000001),9223372036854775807,(-9223372036854775808)]) fun(l1:List Int)=>
 cl (df g t a0 l1) fun x1=>
 some ((x1.1,(Cur.mk x1.2.b x1.2.i x1.2.h)))
theorem t6 {g:G} {t:TE} {a0:Cur} {r:Int×Cur} (hg:g=G.real) (ht:t=TE.real) (h:mt g t a0=some r):FnM Tryz.prog 125 (.p (Cur.ds t a0)) [] (.c (.r (.v (.int .i64 r.1)))) (.p (Cur.ds t r.2)):=by
 obtain⟨X,hX⟩:=aC (.c (.r (.v (.int .i64 r.1))):X);obtain⟨Y,hY⟩:=aC (.p (Cur.ds t r.2):AM);rw[←hX,←hY];refine eI (rvs:=Gc) (j:=Ic) Tryz.func125 rfl (by kernel_rfl) (nb rfl) (by kernel_rfl) af ?_;intro g2 F hg2 hF;obtain rfl:g2=g:=hg2.unique.trans hg.symm;clear hg2;obtain⟨_⟩:=g2;obtain⟨_,_,_,_,_,_,r_I64⟩:=t
 obtain⟨a0_b,a0_i,a0_h⟩:=a0;unfold mt at h;try dsimp only at h
 cbv;obtain⟨l1,hl1,h⟩:=ah h;try dsimp only at h
 refine AVal.mk (r_I64 l1) (by rw[←hl1];exact dE hg ht [(-1),0,1,2,255,1440,86400,86401,999999999,1000000000,1000000001,(-1000000001),9223372036854775807,(-9223372036854775808)]) ?_;cbv;obtain⟨x1,hx1,h⟩:=ae h;obtain⟨x1_1,⟨x1_2_b,x1_2_i,x1_2_h⟩⟩:=x1;try dsimp only at h
 refine ACallM.mk _ _ _ _ rfl rfl (hF _ _ _ (cK hg ht hx1)) rfl (nb rfl) (nb rfl) ?_;cbv;obtain rfl:=Option.some.inj h;exact ARetM.mk trivial hX.symm hY.symm
def F6:J:=js [jq 3 (.box 1),jq 4 (.alloc [.r (.v (.int .i64 0)),.r (.v (.int .i64 0))])] [0,3,4] (js [jm 7 0,jf 8 0 3,jk 9 8,jq 10 (.len false 9),jq 11 (.callm 90 true 7 [10]),jm 12 0,jq 13 (.callm 90 true 12 [(ki 10)]),jq 14 (.bld [.r (.v (.int .i64 0)),.r (.v (.int .i64 0))] [(0,1,11),(1,1,13)]),jq 5 (.alloc [.r (.v (.int .i64 0)),.r (.v (.int .i64 0))]),jp (.st 2 5 14)] [0,3,4,5] (js [jl 15 3 3,jf 16 0 5,jk 17 16,jf 18 1 5,jk 19 18,jb 20 .mul .i 19 (ki 1440),jc 21 116 [15,17,20],jm 6 21] [0,4,5,6] (.seq (js [jm 22 6,jb 23 .geq .i 22 (ki 0),jm 24 23,ju 25 24 (.mv 0),ju 26 24 (.callm 67 true 25 [(ki 4)]),ju 27 24 (.not 26),jq 28 (.pick 24 27 kf)] [4,5,6,28] (.cond 28 (.reg none [jm 29 6,jf 30 1 5,jp (.st 1 30 29)] [4,5]) .skip)) (js [jl 31 2 5,jp (.st 2 4 31)] [4] .ret))))
def H0:List RV:=[.c 4 true 2]
def lQ (g:G) (t:TE) (a0:Cur) (a1:Network):Option (Trip×Cur):=
 cl (aF g t a0 (g.llen (t.r_Leg a1.Legs))) fun x1=>
 cl (aF g t (Cur.mk x1.2.b x1.2.i x1.2.h) 10) fun x2=>
 cl (fD g t a1 x1.1 (g.wrap .i64 (g.mul x2.1 1440))) fun x3=>
 br (g.le 0 x3)
 (
  cl (cr g t (Cur.mk x2.2.b x2.2.i x2.2.h) 4) fun x4=>
  br x4.1
  (
   some (((Trip.mk x1.1 x2.1),(Cur.mk x4.2.b x4.2.i x4.2.h))))
  (
   some (((Trip.mk x1.1 x3),(Cur.mk x4.2.b x4.2.i x4.2.h)))))
 (
  some (((Trip.mk x1.1 x2.1),(Cur.mk x2.2.b x2.2.i x2.2.h))))
theorem yQ {g:G} {t:TE} {a0:Cur} {a1:Network} {r:Trip×Cur} (hg:g=G.real) (ht:t=TE.real) (h:lQ g t a0 a1=some r):FnM Tryz.prog 123 (.p (Cur.ds t a0)) [.g (Network.rs t a1)] (.g (Trip.ds t r.1)) (.p (Cur.ds t r.2)):=by
 obtain⟨X,hX⟩:=aC (.g (Trip.ds t r.1):X);obtain⟨Y,hY⟩:=aC (.p (Cur.ds t r.2):AM);rw[←hX,←hY];refine eI (rvs:=H0) (j:=F6) Tryz.func123 rfl (by kernel_rfl) (nb rfl) (by kernel_rfl) af ?_;intro g2 F hg2 hF;obtain rfl:g2=g:=hg2.unique.trans hg.symm;clear hg2;obtain⟨_,_,le⟩:=g2;obtain⟨_⟩:=t
 obtain⟨a0_b,a0_i,a0_h⟩:=a0;obtain⟨a1_Legs,a1_Off,a1_Change⟩:=a1;unfold lQ at h;try dsimp only at h
 cbv;obtain⟨x1,hx1,h⟩:=ae h;obtain⟨x1_1,⟨x1_2_b,x1_2_i,x1_2_h⟩⟩:=x1;try dsimp only at h
 refine ACallM.mk _ _ _ _ rfl rfl (hF _ _ _ (ay hg ht hx1)) rfl (nb rfl) (nb rfl) ?_;cbv;obtain⟨x2,hx2,h⟩:=ae h;obtain⟨x2_1,⟨x2_2_b,x2_2_i,x2_2_h⟩⟩:=x2;try dsimp only at h
 refine ACallM.mk _ _ _ _ rfl rfl (hF _ _ _ (ay hg ht hx2)) rfl (nb rfl) (nb rfl) ?_;cbv;obtain⟨x3,hx3,h⟩:=ae h;try dsimp only at h
 refine ACall.mk _ _ rfl (hF _ _ _ (mO hg ht hx3)) (.inl rfl) (nb rfl) ?_;cbv
 cases hb1:(le 0 x3)
 ·rw[aa hb1] at h;cbv;iterate 3 try(rw[hb1];cbv)
  obtain rfl:=Option.some.inj h;exact ARetM.mk trivial hX.symm hY.symm
 rw[ab hb1] at h;cbv;try(rw[hb1];cbv)
 obtain⟨x4,hx4,h⟩:=ae h;obtain⟨x4_1,⟨x4_2_b,x4_2_i,x4_2_h⟩⟩:=x4;try dsimp only at h
 refine ACallM.mk _ _ _ _ rfl rfl (hF _ _ _ (bZ hg ht hx4)) rfl (nb rfl) (nb rfl) ?_;cbv;iterate 2 try(rw[hb1];cbv)
 have hb2:x4_1=true∨x4_1=false:=by cases x4_1<;>simp
 rcases hb2 with hb2|hb2
 ·rw[ab hb2] at h;have hK_:=h;subst hb2;have h:=hK_;clear hK_;cbv;obtain rfl:=Option.some.inj h;exact ARetM.mk trivial hX.symm hY.symm
 rw[aa hb2] at h;have hK_:=h;subst hb2;have h:=hK_;clear hK_;cbv;obtain rfl:=Option.some.inj h;exact ARetM.mk trivial hX.symm hY.symm
def HS:J:=js [jm 2 (ki 0)] [0] (js [jm 3 0,jc 4 151 [3,(ki 0)],jm 2 4] [2] .ret)
def GY:List RV:=[.t 2]
def oq (g:G) (t:TE) (a0:Int):Int:=
 lP (tX g t a0 0) fun x1=>
 x1
theorem rR {g:G} {t:TE} {a0:Int} {r:Int} (hg:g=G.real) (ht:t=TE.real) (h:oq g t a0=r):Fn Tryz.prog 182 [.c (.v (.int .i64 a0))] (.c (.r (.v (.int .i64 r)))):=by
 obtain⟨X,hX⟩:=aC (.c (.r (.v (.int .i64 r))):X);rw[←hX];refine aA (rvs:=GY) (j:=HS) Tryz.func182 rfl (by kernel_rfl) (nb rfl) (by kernel_rfl) af ?_;intro g2 F hg2 hF;obtain rfl:g2=g:=hg2.unique.trans hg.symm;clear hg2;obtain⟨_⟩:=g2;obtain⟨_⟩:=t
 unfold oq at h;try dsimp only at h
 cbv;obtain⟨x1,hx1,h⟩:=ah h;try dsimp only at h
 refine ACall.mk _ _ rfl (hF _ _ _ (zC hg ht hx1)) (.inl rfl) (nb rfl) ?_;cbv;subst h;exact ARet.mk trivial hX.symm
def HK:J:=js [jq 3 (.box 1),jq 4 (.alloc [.r (.v (.int .i64 0)),.r (.v (.int .i64 0)),.r (.v (.int .i64 0)),.r (.v (.string .empty)),.r (.v (.int .i64 0)),.r (.v (.int .i64 0))])] [0,3,4] (.seq (.reg (some [[],[0],[0,1],[],[0,1,3],[0,1,3,4],[],[0,1,3,4,6],[0,1,3,4,6,7],[],[],[0,1,3,4,6,7,9,10],[0,1,2,3,4,5,6,7,8,9,10,11],[],[0,1,2,3,4,5,6,7,8,9,10,11,12,13]]) [jm 6 0,jq 7 (.callm 90 true 6 [(ki 3)]),jb 8 .add .i (ki 1) 7,jm 9 0,jq 10 (.callm 90 true 9 [(ki 120)]),jb 11 .mul .i (ki 60) 10,jm 12 0,jq 13 (.callm 90 true 12 [(ki 4)]),jb 14 .add .i (ki 1) 13,jm 15 0,jl 16 3 3,jq 17 (.callm 123 true 15 [16]),jq 18 (.bld [.r (.v (.int .i64 0)),.r (.v (.int .i64 0)),.r (.v (.int .i64 0)),.r (.v (.string .empty)),.r (.v (.int .i64 0)),.r (.v (.int .i64 0))] [(0,1,8),(1,1,11),(2,1,14),(4,2,17)]),jq 5 (.alloc [.r (.v (.int .i64 0)),.r (.v (.int .i64 0)),.r (.v (.int .i64 0)),.r (.v (.string .empty)),.r (.v (.int .i64 0)),.r (.v (.int .i64 0))]),jp (.st 6 5 18)] [0,3,4,5]) (.seq (js [jf 19 2 5,jk 20 19] [0,3,4,5,20] (.block 0 (.seq (js [jb 32 .eql .i 20 (ki 1),jm 31 32] [0,3,4,5,20,31] (.cond 31 .skip (.reg none [jb 33 .eql .i 20 (ki 4),jm 31 33] [0,3,4,5,20,31]))) (.cond 31 (js [jq 34 (.bld [.r (.v (.int .i64 0)),.r (.v (.int .i64 0))] []),jf 35 4 5,jp (.st 2 35 34)] [0,3,4,5] (.reg none [jm 36 0,jl 37 3 3,jq 38 (.callm 70 true 36 [37]),jf 39 3 5,jp (.st 1 39 38)] [4,5])) (js [jb 41 .eql .i 20 (ki 3),jm 40 41] [0,3,4,5,40] (.cond 40 (.reg none [jl 42 3 3,jf 43 4 5,jl 44 2 43,jc 45 62 [42,44],jm 46 0,jq 47 (.bslr 1 [(ki 0),(ki 0),(ki 30),(ki 600)]),jq 48 (.callm 72 true 46 [47]),jb 49 .sub .i 45 48,jc 50 182 [49],jf 51 1 5,jp (.st 1 51 50)] [4,5]) (.reg none [jl 21 3 3,jf 22 4 5,jl 23 2 22,jc 24 63 [21,23],jm 25 0,jq 26 (.bslr 1 [(ki 0),(ki 0),(ki 30),(ki 600)]),jq 27 (.callm 72 true 25 [26]),jb 28 .add .i 24 27,jc 29 182 [28],jf 30 1 5,jp (.st 1 30 29)] [4,5]))))))) (js [jl 52 6 5,jp (.st 6 4 52)] [4] .ret)))
def Ia:List RV:=[.c 4 true 6]
def lu (g:G) (t:TE) (a0:Cur) (a1:Network):Option (Scan×Cur):=
 cl (aF g t a0 3) fun x1=>
 cl (aF g t (Cur.mk x1.2.b x1.2.i x1.2.h) 120) fun x2=>
 cl (aF g t (Cur.mk x2.2.b x2.2.i x2.2.h) 4) fun x3=>
 cl (lQ g t (Cur.mk x3.2.b x3.2.i x3.2.h) a1) fun x4=>
 br (g.eq (g.wrap .i64 (g.add 1 x3.1)) 1)
 (
  cl (lM g t (Cur.mk x4.2.b x4.2.i x4.2.h) a1) fun x5=>
  some (((Scan.mk (g.wrap .i64 (g.add 1 x1.1)) (g.wrap .i64 (g.mul 60 x2.1)) (g.wrap .i64 (g.add 1 x3.1)) x5.1 (Trip.mk 0 0)),(Cur.mk x5.2.b x5.2.i x5.2.h))))
 (
  br (g.eq (g.wrap .i64 (g.add 1 x3.1)) 4)
  (
   cl (lM g t (Cur.mk x4.2.b x4.2.i x4.2.h) a1) fun x6=>
   some (((Scan.mk (g.wrap .i64 (g.add 1 x1.1)) (g.wrap .i64 (g.mul 60 x2.1)) (g.wrap .i64 (g.add 1 x3.1)) x6.1 (Trip.mk 0 0)),(Cur.mk x6.2.b x6.2.i x6.2.h))))
  (
   br (g.eq (g.wrap .i64 (g.add 1 x3.1)) 3)
   (
    cl (gG g t a1 (Trip.mk x4.1.Leg x4.1.Day)) fun x7=>
    lP ([0,0,30,600]) fun(l1:List Int)=>
    cl (df g t (Cur.mk x4.2.b x4.2.i x4.2.h) l1) fun x8=>
    lP (oq g t (g.wrap .i64 (g.sub x7 x8.1))) fun x9=>
    some (((Scan.mk (g.wrap .i64 (g.add 1 x1.1)) x9 (g.wrap .i64 (g.add 1 x3.1)) ByteArray.empty (Trip.mk x4.1.Leg x4.1.Day)),(Cur.mk x8.2.b x8.2.i x8.2.h))))
   (
    cl (kc g t a1 (Trip.mk x4.1.Leg x4.1.Day)) fun x10=>
    lP ([0,0,30,600]) fun(l2:List Int)=>
    cl (df g t (Cur.mk x4.2.b x4.2.i x4.2.h) l2) fun x11=>
    lP (oq g t (g.wrap .i64 (g.add x10 x11.1))) fun x12=>
    some (((Scan.mk (g.wrap .i64 (g.add 1 x1.1)) x12 (g.wrap .i64 (g.add 1 x3.1)) ByteArray.empty (Trip.mk x4.1.Leg x4.1.Day)),(Cur.mk x11.2.b x11.2.i x11.2.h))))))
theorem yH {g:G} {t:TE} {a0:Cur} {a1:Network} {r:Scan×Cur} (hg:g=G.real) (ht:t=TE.real) (h:lu g t a0 a1=some r):FnM Tryz.prog 174 (.p (Cur.ds t a0)) [.g (Network.rs t a1)] (.g (Scan.ds t r.1)) (.p (Cur.ds t r.2)):=by
 obtain⟨X,hX⟩:=aC (.g (Scan.ds t r.1):X);obtain⟨Y,hY⟩:=aC (.p (Cur.ds t r.2):AM);rw[←hX,←hY];refine eI (rvs:=Ia) (j:=HK) Tryz.func174 rfl (by kernel_rfl) (nb rfl) (by kernel_rfl) af ?_;intro g2 F hg2 hF;obtain rfl:g2=g:=hg2.unique.trans hg.symm;clear hg2;obtain⟨wrap,_,_,eq,_,_,_,_,_,_,_,_,_,add⟩:=g2;obtain⟨_,_,_,_,_,_,r_I64⟩:=t
 obtain⟨a0_b,a0_i,a0_h⟩:=a0;obtain⟨a1_Legs,a1_Off,a1_Change⟩:=a1;unfold lu at h;try dsimp only at h
 cbv;obtain⟨x1,hx1,h⟩:=ae h;obtain⟨x1_1,⟨x1_2_b,x1_2_i,x1_2_h⟩⟩:=x1;try dsimp only at h
 refine ACallM.mk _ _ _ _ rfl rfl (hF _ _ _ (ay hg ht hx1)) rfl (nb rfl) (nb rfl) ?_;cbv;obtain⟨x2,hx2,h⟩:=ae h;obtain⟨x2_1,⟨x2_2_b,x2_2_i,x2_2_h⟩⟩:=x2;try dsimp only at h
 refine ACallM.mk _ _ _ _ rfl rfl (hF _ _ _ (ay hg ht hx2)) rfl (nb rfl) (nb rfl) ?_;cbv;obtain⟨x3,hx3,h⟩:=ae h;obtain⟨x3_1,⟨x3_2_b,x3_2_i,x3_2_h⟩⟩:=x3;try dsimp only at h
 refine ACallM.mk _ _ _ _ rfl rfl (hF _ _ _ (ay hg ht hx3)) rfl (nb rfl) (nb rfl) ?_;cbv;obtain⟨x4,hx4,h⟩:=ae h;obtain⟨⟨x4_1_Leg,x4_1_Day⟩,⟨x4_2_b,x4_2_i,x4_2_h⟩⟩:=x4;try dsimp only at h
 refine ACallM.mk _ _ _ _ rfl rfl (hF _ _ _ (yQ hg ht hx4)) rfl (nb rfl) (nb rfl) ?_;cbv
 cases hb1:(eq (wrap .i64 (add 1 x3_1)) 1)
 rotate_left
 ·rw[ab hb1] at h;cbv;try(rw[hb1];cbv)
  obtain⟨x5,hx5,h⟩:=ae h;obtain⟨x5_1,⟨x5_2_b,x5_2_i,x5_2_h⟩⟩:=x5;try dsimp only at h
  refine ACallM.mk _ _ _ _ rfl rfl (hF _ _ _ (nY hg ht hx5)) rfl (nb rfl) (nb rfl) ?_;cbv;obtain rfl:=Option.some.inj h;exact ARetM.mk trivial hX.symm hY.symm
 rw[aa hb1] at h;cbv
 cases hb2:(eq (wrap .i64 (add 1 x3_1)) 4)
 rotate_left
 ·rw[ab hb2] at h;cbv;obtain⟨x6,hx6,h⟩:=ae h;obtain⟨x6_1,⟨x6_2_b,x6_2_i,x6_2_h⟩⟩:=x6;try dsimp only at h
  refine ACallM.mk _ _ _ _ rfl rfl (hF _ _ _ (nY hg ht hx6)) rfl (nb rfl) (nb rfl) ?_;cbv;obtain rfl:=Option.some.inj h;exact ARetM.mk trivial hX.symm hY.symm
 rw[aa hb2] at h;cbv
 cases hb3:(eq (wrap .i64 (add 1 x3_1)) 3)
 rotate_left
 ·rw[ab hb3] at h;cbv;obtain⟨x7,hx7,h⟩:=ae h;try dsimp only at h
  refine ACall.mk _ _ rfl (hF _ _ _ (nR hg ht hx7)) (.inl rfl) (nb rfl) ?_;cbv;obtain⟨l1,hl1,h⟩:=ah h;try dsimp only at h
  refine AVal.mk (r_I64 l1) (by rw[←hl1];exact dE hg ht [0,0,30,600]) ?_;cbv;obtain⟨x8,hx8,h⟩:=ae h;obtain⟨x8_1,⟨x8_2_b,x8_2_i,x8_2_h⟩⟩:=x8;try dsimp only at h
  refine ACallM.mk _ _ _ _ rfl rfl (hF _ _ _ (cK hg ht hx8)) rfl (nb rfl) (nb rfl) ?_;cbv;obtain⟨x9,hx9,h⟩:=ah h;try dsimp only at h
  refine ACall.mk _ _ rfl (hF _ _ _ (rR hg ht hx9)) (.inl rfl) (nb rfl) ?_;cbv;obtain rfl:=Option.some.inj h;exact ARetM.mk trivial hX.symm hY.symm
 rw[aa hb3] at h;cbv;obtain⟨x10,hx10,h⟩:=ae h;try dsimp only at h
 refine ACall.mk _ _ rfl (hF _ _ _ (rh hg ht hx10)) (.inl rfl) (nb rfl) ?_;cbv;obtain⟨l2,hl2,h⟩:=ah h;try dsimp only at h
 refine AVal.mk (r_I64 l2) (by rw[←hl2];exact dE hg ht [0,0,30,600]) ?_;cbv;obtain⟨x11,hx11,h⟩:=ae h;obtain⟨x11_1,⟨x11_2_b,x11_2_i,x11_2_h⟩⟩:=x11;try dsimp only at h
 refine ACallM.mk _ _ _ _ rfl rfl (hF _ _ _ (cK hg ht hx11)) rfl (nb rfl) (nb rfl) ?_;cbv;obtain⟨x12,hx12,h⟩:=ah h;try dsimp only at h
 refine ACall.mk _ _ rfl (hF _ _ _ (rR hg ht hx12)) (.inl rfl) (nb rfl) ?_;cbv;obtain rfl:=Option.some.inj h;exact ARetM.mk trivial hX.symm hY.symm
end Go.Vs
