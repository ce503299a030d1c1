/- Part of the proofs of this seat's laws: Lad. No condition. -/
import Derived.Test.YtdgkokanccedkaaGreatDoorTy
import Derived.Test.YtdgkokanccedkaaGreatDoorTIRall
import Derived.Test.YtdgkokanccedkaaGreatDoorLaa
import Derived.Test.YtdgkokanccedkaaGreatDoorLab
set_option linter.unusedVariables false
set_option linter.unusedSimpArgs false
set_option linter.unusedSectionVars false
namespace Go.Vs
set_option maxRecDepth 100000
def ir74:J:=js [jq 2 (.box 0),jm 4 (ki 0)] [1,2] (js [jm 5 1,jf 6 0 2,jk 7 6,jq 8 (.len true 7),jb 9 .sub .i 5 8,jm 1 9] [1,2] (.seq (js [jm 10 1,jb 11 .lss .i 10 (ki 0)] [1,2,11] (.cond 11 (js [jq 4 (.mv (.k (V.i (-1))))] [4] .ret) .skip)) (js [jm 12 1,jf 13 1 2,jk 14 13,jq 15 (.len true 14),jb 16 .sub .i 12 15,jm 1 16] [1] (.seq (js [jm 17 1,jb 18 .lss .i 17 (ki 0)] [1,18] (.cond 18 (js [jq 4 (.mv (.k (V.i (-1))))] [4] .ret) .skip)) (js [jm 19 1,jm 4 19] [4] .ret)))))
def rv74:List RV:=[.t 4]
open Go.Proofs Go.IntWalk
set_option linter.unusedVariables false
set_option maxHeartbeats 4000000
def kZ (g:G) (t:TE) (a0:Leg) (a1:Int):Int:=
 br (g.lt (g.wrap .i64 (g.sub a1 (g.int (g.slen a0.From)))) 0)
 (
  (-1))
 (
  br (g.lt (g.wrap .i64 (g.sub (g.wrap .i64 (g.sub a1 (g.int (g.slen a0.From)))) (g.int (g.slen a0.To)))) 0)
  (
   (-1))
  (
   (g.wrap .i64 (g.sub (g.wrap .i64 (g.sub a1 (g.int (g.slen a0.From)))) (g.int (g.slen a0.To))))))
theorem vI {g:G} {t:TE} {a0:Leg} {a1:Int} {r:Int} (hg:g=G.real) (ht:t=TE.real) (h:kZ g t a0 a1=r):Fn Tryz.prog 74 [.g (Leg.rs t a0),.c (.v (.int .i64 a1))] (.c (.r (.v (.int .i64 r)))):=by
 obtain⟨X,hX⟩:=au (.c (.r (.v (.int .i64 r))):X);rw[←hX];refine aq (rvs:=rv74) (j:=ir74) Tryz.func74 rfl (by kernel_rfl) (nb rfl) (by kernel_rfl) ac ?_;intro g2 F hg2 hF;obtain rfl:g2=g:=hg2.unique.trans hg.symm;clear hg2;obtain⟨wrap,lt,_,_,_,_,_,_,_,_,_,_,int,_,sub,_,_,_,_,_,_,_,_,_,_,_,_,_,_,_,_,_,_,_,_,slen⟩:=g2;obtain⟨_⟩:=t;obtain⟨a0_From,a0_To,a0_Start,a0_Takes,a0_Days,a0_Room⟩:=a0
 unfold kZ at h;try dsimp only at h
 cbv
 cases hb1:(lt (wrap .i64 (sub a1 (int (slen a0_From)))) 0)
 rotate_left
 ·rw[ab hb1] at h;cbv;subst h;exact ARet.mk trivial hX.symm
 rw[aa hb1] at h;cbv
 cases hb2:(lt (wrap .i64 (sub (wrap .i64 (sub a1 (int (slen a0_From)))) (int (slen a0_To)))) 0)
 rotate_left
 ·rw[ab hb2] at h;cbv;subst h;exact ARet.mk trivial hX.symm
 rw[aa hb2] at h;cbv;subst h;exact ARet.mk trivial hX.symm
def ir46:J:=js [jm 4 (ki 0)] [0,1] (js [jm 6 1,jm 7 0,jq 8 (.len false 7),jb 9 .sub .i 6 8,jm 1 9] [0,1] (.seq (js [jm 10 1,jb 11 .lss .i 10 (ki 0)] [0,1,11] (.cond 11 (js [jq 4 (.mv (.k (V.i (-1))))] [4] .ret) .skip)) (.seq (js [jm 5 (ki 0)] [0,1,5] (.bl 0 (.seq (js [jm 12 5,jm 13 0,jq 14 (.len false 13),jb 15 .lss .i 12 14] [0,1,5,15] (.cond 15 .skip (.exit 0))) (.seq (.block 1 (js [jm 18 0,jm 19 5,ja 20 6 18 19,jl 21 6 20,jm 22 1,jc 23 74 [21,22],jm 1 23] [0,1,5] (js [jm 24 1,jb 25 .lss .i 24 (ki 0)] [0,1,5,25] (.cond 25 (js [jq 4 (.mv (.k (V.i (-1))))] [4] .ret) .skip)))) (.reg none [jm 16 5,jb 17 .add .i 16 (ki 1),jm 5 17] [0,1,5]))))) (js [jm 26 1,jm 4 26] [4] .ret))))
def rv46:List RV:=[.t 4]
def cM (g:G) (t:TE):List Leg→Int→LR Int Int
 |[],v1=>
  (LR.out v1)
 |z1::ls1,v1=>
  lP (kZ g t z1 v1) fun x1=>
  br (g.lt x1 0)
  (
   (LR.ret (-1)))
  (
   cM g t ls1 x1)
def iZ (g:G) (t:TE) (a0:List Leg) (a1:Int):Int:=
 br (g.lt (g.wrap .i64 (g.sub a1 (g.llen (t.r_Leg a0)))) 0)
 (
  (-1))
 (
  lP (cM g t a0 (g.wrap .i64 (g.sub a1 (g.llen (t.r_Leg a0))))) fun o1=>lrp o1 fun y1=>
  y1)
theorem tr {g:G} {t:TE} {a0:List Leg} {a1:Int} {r:Int} (hg:g=G.real) (ht:t=TE.real) (h:iZ g t a0 a1=r):Fn Tryz.prog 46 [.c (.s 6 (t.r_Leg a0)),.c (.v (.int .i64 a1))] (.c (.r (.v (.int .i64 r)))):=by
 obtain⟨X,hX⟩:=au (.c (.r (.v (.int .i64 r))):X);rw[←hX];refine aq (rvs:=rv46) (j:=ir46) Tryz.func46 rfl (by kernel_rfl) (nb rfl) (by kernel_rfl) ac ?_;intro g2 F hg2 hF;obtain rfl:g2=g:=hg2.unique.trans hg.symm;clear hg2;obtain⟨wrap,lt,_,_,_,_,_,_,_,_,_,_,_,add,sub,_,_,_,_,_,_,llen⟩:=g2;obtain⟨_,_,r_Leg⟩:=t;unfold iZ at h;try dsimp only at h
 cbv
 cases hb1:(lt (wrap .i64 (sub a1 (llen (r_Leg a0)))) 0)
 rotate_left
 ·rw[ab hb1] at h;cbv;subst h;exact ARet.mk trivial hX.symm
 rw[aa hb1] at h;cbv;obtain⟨o1,ho1,h⟩:=aj h;try dsimp only at h
 try rw[hg] at ho1
 try rw[ht] at ho1
 refine ABL.mk {p:Nat×Int×Int//p.1≤a0.length∧p.2.1=((p.1:Nat):Int)∧cM G.real TE.real (List.drop p.1 a0) p.2.2=o1} (fun⟨⟨k1,v2,v1⟩,_⟩=>({sl:=[(0,.c (.r (.s 6 (r_Leg a0)))),(1,.c (.r (.v (.int .i64 v1)))),(5,.c (.r (.v (.int .i64 v2))))],tab:=[]}:St)) 0 (fun p=>a0.length-p.1.1) ⟨(0,0,(wrap .i64 (sub a1 (llen (r_Leg a0))))),Nat.zero_le _,rfl,ho1⟩ (Int) (fun y1=>({sl:=[(1,.c (.r (.v (.int .i64 y1))))],tab:=[]}:St)) 0 (fun y=>o1=LR.out y) ?_ ?_ ?_
 ·refine Wk.of [] rfl rfl ?_ ?_
  ·cbv;all_goals exact⟨⟨_,rfl,rfl⟩,⟨_,rfl,rfl⟩,⟨_,rfl,rfl⟩,trivial⟩
  cbv;all_goals exact trivial
 ·rintro⟨⟨k1,v2,v1⟩,hk1,hi1,h_1⟩ hq1;have hm1:=(hq1.1 0 _ _ rfl);try dsimp only at hk1 hi1 h_1
  clear hq1;cbv
  by_cases hc1_:k1<a0.length
  ·have hb2:lt v2 (llen (r_Leg a0))=true:=dw hg ht hi1 hc1_;have hs1:=fM hg ht hi1 hc1_ hm1;obtain⟨z1,hz1⟩:=a8 hc1_;rw[aN hz1] at h_1;rw[cM] at h_1;obtain⟨z1_From,z1_To,z1_Start,z1_Takes,z1_Days,z1_Room⟩:=z1;try rw[←hg] at h_1
   try rw[←ht] at h_1
   try dsimp only at h_1
   rw[hb2];cbv;refine AStep.mk (ic hi1) ?_;cbv;refine AGet.mk _ (eQ hg ht hi1 hz1) ?_;cbv;obtain⟨x1,hx1,h_1⟩:=aj h_1;try dsimp only at h_1
   refine ACall.mk _ _ rfl (hF _ _ _ (vI hg ht hx1)) (.inl rfl) (nb rfl) ?_;cbv
   cases hb3:(lt x1 0)
   rotate_left
   ·rw[ab hb3] at h_1;cbv;subst h_1;try dsimp only[lr,lrL,lrp,bu] at h
    subst h;exact ARet.mk trivial hX.symm
   rw[aa hb3] at h_1;cbv;try rw[hg] at h_1
   try rw[ht] at h_1
   refine⟨⟨(k1+1,(wrap .i64 (add v2 1)),x1),hc1_,hs1,h_1⟩,Wk.of [] rfl rfl ?_ ?_,db hc1_⟩
   ·cbv;all_goals exact⟨⟨_,rfl,rfl⟩,⟨_,rfl,rfl⟩,⟨_,rfl,rfl⟩,trivial⟩
   cbv;all_goals exact trivial
  have hb2:lt v2 (llen (r_Leg a0))=false:=c6 hg ht hi1 hc1_;rw[List.drop_of_length_le (Nat.le_of_not_lt hc1_)] at h_1;rw[cM] at h_1;try rw[←hg] at h_1
  try rw[←ht] at h_1
  try dsimp only at h_1
  rw[hb2];cbv;refine⟨v1,Wk.of [] rfl rfl ?_ ?_,h_1.symm⟩
  ·cbv;all_goals exact⟨⟨_,rfl,rfl⟩,trivial⟩
  cbv;all_goals exact trivial
 rintro y1 hy1;replace hy1:=hy1.symm;subst hy1;try dsimp only[lr,lrL,lrp,bu] at h
 cbv;subst h;exact ARet.mk trivial hX.symm
def ir47:J:=js [jm 4 (ki 0)] [0,1] (js [jm 5 1,jm 6 0,jq 7 (.len false 6),jb 8 .sub .i 5 7,jm 1 8] [1] (.seq (js [jm 9 1,jb 10 .lss .i 9 (ki 0)] [1,10] (.cond 10 (js [jq 4 (.mv (.k (V.i (-1))))] [4] .ret) .skip)) (js [jm 11 1,jm 4 11] [4] .ret)))
def rv47:List RV:=[.t 4]
def iU (g:G) (t:TE) (a0:List Int) (a1:Int):Int:=
 br (g.lt (g.wrap .i64 (g.sub a1 (g.llen (t.r_I64 a0)))) 0)
 (
  (-1))
 (
  (g.wrap .i64 (g.sub a1 (g.llen (t.r_I64 a0)))))
theorem tz {g:G} {t:TE} {a0:List Int} {a1:Int} {r:Int} (hg:g=G.real) (ht:t=TE.real) (h:iU g t a0 a1=r):Fn Tryz.prog 47 [.c (.s 1 (t.r_I64 a0)),.c (.v (.int .i64 a1))] (.c (.r (.v (.int .i64 r)))):=by
 obtain⟨X,hX⟩:=au (.c (.r (.v (.int .i64 r))):X);rw[←hX];refine aq (rvs:=rv47) (j:=ir47) Tryz.func47 rfl (by kernel_rfl) (nb rfl) (by kernel_rfl) ac ?_;intro g2 F hg2 hF;obtain rfl:g2=g:=hg2.unique.trans hg.symm;clear hg2;obtain⟨wrap,lt,_,_,_,_,_,_,_,_,_,_,_,_,sub,_,_,_,_,_,_,llen⟩:=g2;obtain⟨_,_,_,_,r_I64⟩:=t;unfold iU at h;try dsimp only at h
 cbv
 cases hb1:(lt (wrap .i64 (sub a1 (llen (r_I64 a0)))) 0)
 rotate_left
 ·rw[ab hb1] at h;cbv;subst h;exact ARet.mk trivial hX.symm
 rw[aa hb1] at h;cbv;subst h;exact ARet.mk trivial hX.symm
def ir17:J:=js [jq 2 (.box 0),jm 4 (ki 0)] [1,2] (js [jf 5 0 2,jk 6 5,jm 7 1,jc 8 46 [6,7],jm 1 8] [1,2] (.seq (js [jm 9 1,jb 10 .lss .i 9 (ki 0)] [1,2,10] (.cond 10 (js [jq 4 (.mv (.k (V.i (-1))))] [4] .ret) .skip)) (js [jf 11 1 2,jk 12 11,jm 13 1,jc 14 47 [12,13],jm 1 14] [1] (.seq (js [jm 15 1,jb 16 .lss .i 15 (ki 0)] [1,16] (.cond 16 (js [jq 4 (.mv (.k (V.i (-1))))] [4] .ret) .skip)) (js [jm 17 1,jm 4 17] [4] .ret)))))
def rv17:List RV:=[.t 4]
def fm (g:G) (t:TE) (a0:Network) (a1:Int):Int:=
 lP (iZ g t a0.Legs a1) fun x1=>
 br (g.lt x1 0)
 (
  (-1))
 (
  lP (iU g t a0.Off x1) fun x2=>
  br (g.lt x2 0)
  (
   (-1))
  (
   x2))
theorem ph {g:G} {t:TE} {a0:Network} {a1:Int} {r:Int} (hg:g=G.real) (ht:t=TE.real) (h:fm g t a0 a1=r):Fn Tryz.prog 17 [.g (Network.rs t a0),.c (.v (.int .i64 a1))] (.c (.r (.v (.int .i64 r)))):=by
 obtain⟨X,hX⟩:=au (.c (.r (.v (.int .i64 r))):X);rw[←hX];refine aq (rvs:=rv17) (j:=ir17) Tryz.func17 rfl (by kernel_rfl) (nb rfl) (by kernel_rfl) ac ?_;intro g2 F hg2 hF;obtain rfl:g2=g:=hg2.unique.trans hg.symm;clear hg2;obtain⟨_,lt⟩:=g2;obtain⟨_⟩:=t;obtain⟨a0_Legs,a0_Off,a0_Change⟩:=a0
 unfold fm at h;try dsimp only at h
 cbv;obtain⟨x1,hx1,h⟩:=aj h;try dsimp only at h
 refine ACall.mk _ _ rfl (hF _ _ _ (tr hg ht hx1)) (.inl rfl) (nb rfl) ?_;cbv
 cases hb1:(lt x1 0)
 rotate_left
 ·rw[ab hb1] at h;cbv;subst h;exact ARet.mk trivial hX.symm
 rw[aa hb1] at h;cbv;obtain⟨x2,hx2,h⟩:=aj h;try dsimp only at h
 refine ACall.mk _ _ rfl (hF _ _ _ (tz hg ht hx2)) (.inl rfl) (nb rfl) ?_;cbv
 cases hb2:(lt x2 0)
 rotate_left
 ·rw[ab hb2] at h;cbv;subst h;exact ARet.mk trivial hX.symm
 rw[aa hb2] at h;cbv;subst h;exact ARet.mk trivial hX.symm
def ir76:J:=js [jq 1 (.box 0),jq 2 (.alloc [.r (.v (.string .empty)),.r (.v (.string .empty)),.r (.v (.int .i64 0)),.r (.v (.int .i64 0)),.r (.v (.int .i64 0)),.r (.v (.int .i64 0))])] [1,2] (js [jq 3 (.alloc [.r (.v (.string .empty)),.r (.v (.string .empty)),.r (.v (.int .i64 0)),.r (.v (.int .i64 0)),.r (.v (.int .i64 0)),.r (.v (.int .i64 0))])] [1,2,3] (js [jf 4 0 1,jk 5 4,jf 6 0 3,jp (.st 1 6 5)] [1,2,3] (js [jf 7 1 1,jk 8 7,jf 9 1 3,jp (.st 1 9 8)] [1,2,3] (js [jf 10 2 1,jk 11 10,jf 12 2 3,jp (.st 1 12 11)] [1,2,3] (js [jf 13 3 1,jk 14 13,jf 15 3 3,jp (.st 1 15 14)] [1,2,3] (js [jf 16 4 1,jk 17 16,jf 18 4 3,jp (.st 1 18 17)] [1,2,3] (js [jf 19 5 1,jk 20 19,jf 21 5 3,jp (.st 1 21 20)] [2,3] (js [jl 22 6 3,jp (.st 6 2 22)] [2] .ret))))))))
def rv76:List RV:=[.c 2 true 6]
def mX (g:G) (t:TE) (a0:Leg):Leg:=
 a0
theorem vp {g:G} {t:TE} {a0:Leg} {r:Leg} (hg:g=G.real) (ht:t=TE.real) (h:mX g t a0=r):Fn Tryz.prog 76 [.g (Leg.rs t a0)] (.g (Leg.ds t r)):=by
 obtain⟨X,hX⟩:=au (.g (Leg.ds t r):X);rw[←hX];refine aq (rvs:=rv76) (j:=ir76) Tryz.func76 rfl (by kernel_rfl) (nb rfl) (by kernel_rfl) ac ?_;intro g2 F hg2 hF;obtain rfl:g2=g:=hg2.unique.trans hg.symm;clear hg2;obtain⟨_⟩:=g2;obtain⟨_⟩:=t;obtain⟨a0_From,a0_To,a0_Start,a0_Takes,a0_Days,a0_Room⟩:=a0
 unfold mX at h;try dsimp only at h
 cbv;subst h;exact ARet.mk trivial hX.symm
def ir52:J:=js [jq 2 (.mv (.k (.c (.n 6))))] [0] (js [jm 5 0,jq 6 (.len false 5),jq 7 (.mk 6 64 [.r (.v (.string .empty)),.r (.v (.string .empty)),.r (.v (.int .i64 0)),.r (.v (.int .i64 0)),.r (.v (.int .i64 0)),.r (.v (.int .i64 0))] 6),jm 3 7] [0,3] (.seq (js [jm 4 (ki 0)] [0,3,4] (.bl 0 (.seq (js [jm 8 4,jm 9 0,jq 10 (.len false 9),jb 11 .lss .i 8 10] [0,3,4,11] (.cond 11 .skip (.exit 0))) (.seq (.block 1 (.reg none [jm 14 3,jm 15 4,jm 16 0,jm 17 4,ja 18 6 16 17,jl 19 6 18,jc 20 76 [19],ja 21 6 14 15,jp (.st 6 21 20)] [0,3,4])) (.reg none [jm 12 4,jb 13 .add .i 12 (ki 1),jm 4 13] [0,3,4]))))) (js [jm 22 3,jm 2 22] [2] .ret)))
def rv52:List RV:=[.t 2]
def cN (g:G) (t:TE):List Leg→Int→List Leg→Option (List Leg)
 |[],v1,w1=>
  some w1
 |z1::ls1,v1,w1=>
  lP (mX g t z1) fun x1=>
  gd (((0:Int)≤v1∧v1<(((g.dlen (t.d_Leg w1)):Nat):Int)))<|
  gt w1 (g.nat v1) fun x2=>
  lP (List.set w1 (g.nat v1) (Leg.mk x1.From x1.To x1.Start x1.Takes x1.Days x1.Room)) fun(l2:List Leg)=>
  cN g t ls1 (g.wrap .i64 (g.add v1 1)) l2
def i3 (g:G) (t:TE) (a0:List Leg):Option (List Leg):=
 gd (((0:Int)≤(g.llen (t.r_Leg a0))∧64* (g.llen (t.r_Leg a0))≤70368744177664∧(g.llen (t.r_Leg a0))≤4611686018427387904))<|
 lP (List.replicate (g.nat (g.llen (t.r_Leg a0))) (Leg.mk ByteArray.empty ByteArray.empty 0 0 0 0)) fun(l1:List Leg)=>
 cl (cN g t a0 0 l1) fun y1=>
 some y1
theorem tF {g:G} {t:TE} {a0:List Leg} {r:List Leg} (hg:g=G.real) (ht:t=TE.real) (h:i3 g t a0=some r):Fn Tryz.prog 52 [.c (.s 6 (t.r_Leg a0))] (.c (.o 6 (t.d_Leg r))):=by
 obtain⟨X,hX⟩:=au (.c (.o 6 (t.d_Leg r)):X);rw[←hX];refine aq (rvs:=rv52) (j:=ir52) Tryz.func52 rfl (by kernel_rfl) (nb rfl) (by kernel_rfl) ac ?_;intro g2 F hg2 hF;obtain rfl:g2=g:=hg2.unique.trans hg.symm;clear hg2;obtain⟨wrap,lt,_,_,_,_,_,_,_,_,_,_,_,add,_,_,_,_,_,_,_,llen,_,_,dlen⟩:=g2;obtain⟨_,_,r_Leg,d_Leg⟩:=t;unfold i3 at h;try dsimp only at h
 cbv;obtain⟨hc2,h⟩:=ai h;refine AStep.mk (zP hc2) ?_;cbv;obtain⟨l1,hl1,h⟩:=aj h;try dsimp only at h
 refine ANew.mk (d_Leg l1) (dlen (d_Leg l1)) (by rw[←hl1];exact xn hg ht _ (Leg.mk ByteArray.empty ByteArray.empty 0 0 0 0)) (by rw[←hl1];exact vx hg ht _ (Leg.mk ByteArray.empty ByteArray.empty 0 0 0 0)) ?_;cbv;obtain⟨o1,ho1,h⟩:=ae h;try dsimp only at h
 try rw[hg] at ho1
 try rw[ht] at ho1
 refine ABL.mk {p:Nat×Int×List Leg//p.1≤a0.length∧p.2.1=((p.1:Nat):Int)∧cN G.real TE.real (List.drop p.1 a0) p.2.1 p.2.2=some o1} (fun⟨⟨k1,v1,w1⟩,_⟩=>({sl:=[(0,.c (.r (.s 6 (r_Leg a0)))),(3,.c (.f 0 6 0 (dlen (d_Leg w1)))),(4,.c (.r (.v (.int .i64 v1))))],tab:=[(0,some (.arr 6 (d_Leg w1)))]}:St)) 1 (fun p=>a0.length-p.1.1) ⟨(0,0,l1),Nat.zero_le _,rfl,ho1⟩ (List Leg) (fun y1=>({sl:=[(3,.c (.f 0 6 0 (dlen (d_Leg y1))))],tab:=[(0,some (.arr 6 (d_Leg y1)))]}:St)) 1 (fun y=>o1=y) ?_ ?_ ?_
 ·refine Wk.of [(0,some 48)] rfl rfl ?_ ?_
  ·cbv;all_goals exact⟨⟨_,rfl,rfl⟩,⟨_,rfl,rfl⟩,⟨_,rfl,rfl⟩,trivial⟩
  cbv;all_goals exact⟨⟨_,rfl,rfl⟩,trivial⟩
 ·rintro⟨⟨k1,v1,w1⟩,hk1,hi1,h_1⟩ hq1;have hm1:=(hq1.1 0 _ _ rfl);try dsimp only at hk1 hi1 h_1
  clear hq1;cbv
  by_cases hc1_:k1<a0.length
  ·have hb1:lt v1 (llen (r_Leg a0))=true:=dw hg ht hi1 hc1_;have hs1:=fM hg ht hi1 hc1_ hm1;obtain⟨z1,hz1⟩:=a8 hc1_;rw[aN hz1] at h_1;rw[cN] at h_1;obtain⟨z1_From,z1_To,z1_Start,z1_Takes,z1_Days,z1_Room⟩:=z1;try rw[←hg] at h_1
   try rw[←ht] at h_1
   try dsimp only at h_1
   rw[hb1];cbv;refine AStep.mk (ic hi1) ?_;cbv;refine AGet.mk _ (eQ hg ht hi1 hz1) ?_;cbv;obtain⟨x1,hx1,h_1⟩:=aj h_1;obtain⟨x1_From,x1_To,x1_Start,x1_Takes,x1_Days,x1_Room⟩:=x1;try dsimp only at h_1
   refine ACall.mk _ _ rfl (hF _ _ _ (vp hg ht hx1)) (.inl rfl) (nb rfl) ?_;cbv;obtain⟨hc1,h_1⟩:=ai h_1;refine AStep.mk hc1 ?_;cbv;obtain⟨x2,hx2,h_1⟩:=aP h_1;obtain⟨x2_From,x2_To,x2_Start,x2_Takes,x2_Days,x2_Room⟩:=x2;try dsimp only at h_1
   refine AGet.mk _ (dt hg ht hx2) ?_;cbv;obtain⟨l2,hl2,h_1⟩:=aj h_1;try dsimp only at h_1
   refine ANew.mk (d_Leg l2) _ (by rw[←hl2];exact iE hg ht _ _ (Leg.mk x1_From x1_To x1_Start x1_Takes x1_Days x1_Room)) rfl ?_;have hnl2:(dlen (d_Leg w1))=(d_Leg l2).length:=(by rw[←hl2,gO ht];exact(aH hg ht _));cbv;try rw[hg] at h_1
   try rw[ht] at h_1
   refine⟨⟨(k1+1,(wrap .i64 (add v1 1)),l2),hc1_,hs1,h_1⟩,Wk.of [(0,some 0)] rfl rfl ?_ ?_,db hc1_⟩
   ·cbv;all_goals try rw[show(dlen (d_Leg w1))=(dlen (d_Leg l2)) from(hnl2).trans (aH hg ht _).symm]
    all_goals exact⟨⟨_,rfl,rfl⟩,⟨_,rfl,rfl⟩,⟨_,rfl,rfl⟩,trivial⟩
   cbv;all_goals try rw[show(dlen (d_Leg w1))=(dlen (d_Leg l2)) from(hnl2).trans (aH hg ht _).symm]
   all_goals exact⟨⟨_,rfl,rfl⟩,trivial⟩
  have hb1:lt v1 (llen (r_Leg a0))=false:=c6 hg ht hi1 hc1_;rw[List.drop_of_length_le (Nat.le_of_not_lt hc1_)] at h_1;rw[cN] at h_1;try rw[←hg] at h_1
  try rw[←ht] at h_1
  try dsimp only at h_1
  rw[hb1];cbv;refine⟨w1,Wk.of [(0,some 0)] rfl rfl ?_ ?_,(Option.some.inj h_1).symm⟩
  ·cbv;all_goals exact⟨⟨_,rfl,rfl⟩,trivial⟩
  cbv;all_goals exact⟨⟨_,rfl,rfl⟩,trivial⟩
 rintro y1 hy1;replace hy1:=hy1.symm;subst hy1;try dsimp only[lr,lrL,lrp,bu] at h
 cbv;obtain rfl:=Option.some.inj h;exact ARet.mk ⟨rfl,(aH hg ht _)⟩ hX.symm
def ir53:J:=js [jq 2 (.mv (.k (.c (.n 1))))] [0] (js [jm 5 0,jq 6 (.len false 5),jq 7 (.mk 1 8 [.r (.v (.int .i64 0))] 6),jm 3 7] [0,3] (.seq (js [jm 4 (ki 0)] [0,3,4] (.bl 0 (.seq (js [jm 8 4,jm 9 0,jq 10 (.len false 9),jb 11 .lss .i 8 10] [0,3,4,11] (.cond 11 .skip (.exit 0))) (.seq (.block 1 (.reg none [jm 14 3,jm 15 4,jm 16 0,jm 17 4,ja 18 1 16 17,jk 19 18,ja 20 1 14 15,jp (.st 1 20 19)] [0,3,4])) (.reg none [jm 12 4,jb 13 .add .i 12 (ki 1),jm 4 13] [0,3,4]))))) (js [jm 21 3,jm 2 21] [2] .ret)))
def rv53:List RV:=[.t 2]
def cQ (g:G) (t:TE):List Int→Int→List Int→Option (List Int)
 |[],v1,w1=>
  some w1
 |z1::ls1,v1,w1=>
  gd (((0:Int)≤v1∧v1<(((g.dlen (t.d_I64 w1)):Nat):Int)))<|
  gt w1 (g.nat v1) fun x1=>
  lP (List.set w1 (g.nat v1) z1) fun(l2:List Int)=>
  cQ g t ls1 (g.wrap .i64 (g.add v1 1)) l2
def iM (g:G) (t:TE) (a0:List Int):Option (List Int):=
 gd (((0:Int)≤(g.llen (t.r_I64 a0))∧8* (g.llen (t.r_I64 a0))≤70368744177664∧(g.llen (t.r_I64 a0))≤4611686018427387904))<|
 lP (List.replicate (g.nat (g.llen (t.r_I64 a0))) 0) fun(l1:List Int)=>
 cl (cQ g t a0 0 l1) fun y1=>
 some y1
theorem tW {g:G} {t:TE} {a0:List Int} {r:List Int} (hg:g=G.real) (ht:t=TE.real) (h:iM g t a0=some r):Fn Tryz.prog 53 [.c (.s 1 (t.r_I64 a0))] (.c (.o 1 (t.d_I64 r))):=by
 obtain⟨X,hX⟩:=au (.c (.o 1 (t.d_I64 r)):X);rw[←hX];refine aq (rvs:=rv53) (j:=ir53) Tryz.func53 rfl (by kernel_rfl) (nb rfl) (by kernel_rfl) ac ?_;intro g2 F hg2 hF;obtain rfl:g2=g:=hg2.unique.trans hg.symm;clear hg2;obtain⟨wrap,lt,_,_,_,_,_,_,_,_,_,_,_,add,_,_,_,_,_,_,_,llen,_,_,dlen⟩:=g2;obtain⟨_,_,_,_,r_I64,d_I64⟩:=t;unfold iM at h;try dsimp only at h
 cbv;obtain⟨hc2,h⟩:=ai h;refine AStep.mk (zP hc2) ?_;cbv;obtain⟨l1,hl1,h⟩:=aj h;try dsimp only at h
 refine ANew.mk (d_I64 l1) (dlen (d_I64 l1)) (by rw[←hl1];exact wG hg ht _ 0) (by rw[←hl1];exact vX hg ht _ 0) ?_;cbv;obtain⟨o1,ho1,h⟩:=ae h;try dsimp only at h
 try rw[hg] at ho1
 try rw[ht] at ho1
 refine ABL.mk {p:Nat×Int×List Int//p.1≤a0.length∧p.2.1=((p.1:Nat):Int)∧cQ G.real TE.real (List.drop p.1 a0) p.2.1 p.2.2=some o1} (fun⟨⟨k1,v1,w1⟩,_⟩=>({sl:=[(0,.c (.r (.s 1 (r_I64 a0)))),(3,.c (.f 0 1 0 (dlen (d_I64 w1)))),(4,.c (.r (.v (.int .i64 v1))))],tab:=[(0,some (.arr 1 (d_I64 w1)))]}:St)) 1 (fun p=>a0.length-p.1.1) ⟨(0,0,l1),Nat.zero_le _,rfl,ho1⟩ (List Int) (fun y1=>({sl:=[(3,.c (.f 0 1 0 (dlen (d_I64 y1))))],tab:=[(0,some (.arr 1 (d_I64 y1)))]}:St)) 1 (fun y=>o1=y) ?_ ?_ ?_
 ·refine Wk.of [(0,some 48)] rfl rfl ?_ ?_
  ·cbv;all_goals exact⟨⟨_,rfl,rfl⟩,⟨_,rfl,rfl⟩,⟨_,rfl,rfl⟩,trivial⟩
  cbv;all_goals exact⟨⟨_,rfl,rfl⟩,trivial⟩
 ·rintro⟨⟨k1,v1,w1⟩,hk1,hi1,h_1⟩ hq1;have hm1:=(hq1.1 0 _ _ rfl);try dsimp only at hk1 hi1 h_1
  clear hq1;cbv
  by_cases hc1_:k1<a0.length
  ·have hb1:lt v1 (llen (r_I64 a0))=true:=dE hg ht hi1 hc1_;have hs1:=fJ hg ht hi1 hc1_ hm1;obtain⟨z1,hz1⟩:=a8 hc1_;rw[aN hz1] at h_1;rw[cQ] at h_1;try rw[←hg] at h_1
   try rw[←ht] at h_1
   try dsimp only at h_1
   rw[hb1];cbv;refine AStep.mk (ic hi1) ?_;cbv;refine AGet.mk _ (dW hg ht hi1 hz1) ?_;cbv;obtain⟨hc1,h_1⟩:=ai h_1;refine AStep.mk hc1 ?_;cbv;obtain⟨x1,hx1,h_1⟩:=aP h_1;try dsimp only at h_1
   refine AGet.mk _ (vr hg ht hx1) ?_;cbv;obtain⟨l2,hl2,h_1⟩:=aj h_1;try dsimp only at h_1
   refine ANew.mk (d_I64 l2) _ (by rw[←hl2];exact yE hg ht _ _ z1) rfl ?_;have hnl2:(dlen (d_I64 w1))=(d_I64 l2).length:=(by rw[←hl2,u6 ht];exact(bg hg ht _));cbv;try rw[hg] at h_1
   try rw[ht] at h_1
   refine⟨⟨(k1+1,(wrap .i64 (add v1 1)),l2),hc1_,hs1,h_1⟩,Wk.of [(0,some 0)] rfl rfl ?_ ?_,db hc1_⟩
   ·cbv;all_goals try rw[show(dlen (d_I64 w1))=(dlen (d_I64 l2)) from(hnl2).trans (bg hg ht _).symm]
    all_goals exact⟨⟨_,rfl,rfl⟩,⟨_,rfl,rfl⟩,⟨_,rfl,rfl⟩,trivial⟩
   cbv;all_goals try rw[show(dlen (d_I64 w1))=(dlen (d_I64 l2)) from(hnl2).trans (bg hg ht _).symm]
   all_goals exact⟨⟨_,rfl,rfl⟩,trivial⟩
  have hb1:lt v1 (llen (r_I64 a0))=false:=da hg ht hi1 hc1_;rw[List.drop_of_length_le (Nat.le_of_not_lt hc1_)] at h_1;rw[cQ] at h_1;try rw[←hg] at h_1
  try rw[←ht] at h_1
  try dsimp only at h_1
  rw[hb1];cbv;refine⟨w1,Wk.of [(0,some 0)] rfl rfl ?_ ?_,(Option.some.inj h_1).symm⟩
  ·cbv;all_goals exact⟨⟨_,rfl,rfl⟩,trivial⟩
  cbv;all_goals exact⟨⟨_,rfl,rfl⟩,trivial⟩
 rintro y1 hy1;replace hy1:=hy1.symm;subst hy1;try dsimp only[lr,lrL,lrp,bu] at h
 cbv;obtain rfl:=Option.some.inj h;exact ARet.mk ⟨rfl,(bg hg ht _)⟩ hX.symm
def ir19:J:=js [jq 1 (.box 0),jq 2 (.alloc [.n 6,.n 1,.r (.v (.int .i64 0))])] [1,2] (js [jq 3 (.alloc [.n 6,.n 1,.r (.v (.int .i64 0))])] [1,2,3] (js [jf 4 0 1,jk 5 4,jc 6 52 [5],jf 7 0 3,jp (.st 1 7 6)] [1,2,3] (js [jf 8 1 1,jk 9 8,jc 10 53 [9],jf 11 1 3,jp (.st 1 11 10)] [1,2,3] (js [jf 12 2 1,jk 13 12,jf 14 2 3,jp (.st 1 14 13)] [2,3] (js [jl 15 3 3,jp (.st 3 2 15)] [2] .ret)))))
def rv19:List RV:=[.c 2 true 3]
def cO (g:G) (t:TE) (a0:Network):Option Network:=
 cl (i3 g t a0.Legs) fun x1=>
 cl (iM g t a0.Off) fun x2=>
 some (Network.mk x1 x2 a0.Change)
theorem eU {g:G} {t:TE} {a0:Network} {r:Network} (hg:g=G.real) (ht:t=TE.real) (h:cO g t a0=some r):Fn Tryz.prog 19 [.g (Network.rs t a0)] (.g (Network.ds t r)):=by
 obtain⟨X,hX⟩:=au (.g (Network.ds t r):X);rw[←hX];refine aq (rvs:=rv19) (j:=ir19) Tryz.func19 rfl (by kernel_rfl) (nb rfl) (by kernel_rfl) ac ?_;intro g2 F hg2 hF;obtain rfl:g2=g:=hg2.unique.trans hg.symm;clear hg2;obtain⟨_⟩:=g2;obtain⟨_⟩:=t;obtain⟨a0_Legs,a0_Off,a0_Change⟩:=a0
 unfold cO at h;try dsimp only at h
 cbv;obtain⟨x1,hx1,h⟩:=ae h;try dsimp only at h
 refine ACall.mk _ _ rfl (hF _ _ _ (tF hg ht hx1)) (.inl rfl) (nb rfl) ?_;cbv;obtain⟨x2,hx2,h⟩:=ae h;try dsimp only at h
 refine ACall.mk _ _ rfl (hF _ _ _ (tW hg ht hx2)) (.inl rfl) (nb rfl) ?_;cbv;obtain rfl:=Option.some.inj h;exact ARet.mk ⟨⟨rfl,(aH hg ht _)⟩,⟨rfl,(bg hg ht _)⟩⟩ hX.symm
def ir54:J:=js [jq 2 (.box 0),jq 3 (.box 1),jm 4 kf] [2,3] (.seq (js [jf 5 0 2,jk 6 5,jf 7 0 3,jk 8 7,jb 9 .neq .i 6 8] [2,3,9] (.cond 9 (js [jm 4 kf] [4] .ret) .skip)) (.seq (js [jf 10 1 2,jk 11 10,jf 12 1 3,jk 13 12,jb 14 .neq .i 11 13] [14] (.cond 14 (js [jm 4 kf] [4] .ret) .skip)) (js [jm 4 kt] [4] .ret)))
def rv54:List RV:=[.t 4]
def iC (g:G) (t:TE) (a0:Trip) (a1:Trip):Bool:=
 br (g.eq a0.Leg a1.Leg)
 (
  br (g.eq a0.Day a1.Day)
  (
   true)
  (
   false))
 (
  false)
theorem s7 {g:G} {t:TE} {a0:Trip} {a1:Trip} {r:Bool} (hg:g=G.real) (ht:t=TE.real) (h:iC g t a0 a1=r):Fn Tryz.prog 54 [.g (Trip.rs t a0),.g (Trip.rs t a1)] (.c (.r (.v (.bool r)))):=by
 obtain⟨X,hX⟩:=au (.c (.r (.v (.bool r))):X);rw[←hX];refine aq (rvs:=rv54) (j:=ir54) Tryz.func54 rfl (by kernel_rfl) (nb rfl) (by kernel_rfl) ac ?_;intro g2 F hg2 hF;obtain rfl:g2=g:=hg2.unique.trans hg.symm;clear hg2;obtain⟨_,_,_,eq⟩:=g2;obtain⟨_⟩:=t;obtain⟨a0_Leg,a0_Day⟩:=a0
 obtain⟨a1_Leg,a1_Day⟩:=a1;unfold iC at h;try dsimp only at h
 cbv
 cases hb1:(eq a0_Leg a1_Leg)
 ·rw[aa hb1] at h;cbv;subst h;exact ARet.mk trivial hX.symm
 rw[ab hb1] at h;cbv
 cases hb2:(eq a0_Day a1_Day)
 rotate_left
 ·rw[ab hb2] at h;cbv;subst h;exact ARet.mk trivial hX.symm
 rw[aa hb2] at h;cbv;subst h;exact ARet.mk trivial hX.symm
def ir20:J:=js [jq 2 (.box 0),jq 3 (.box 1),jm 4 kf] [2,3] (.seq (js [jf 5 0 2,jk 6 5,jf 7 0 3,jk 8 7,jb 9 .neq .i 6 8] [2,3,9] (.cond 9 (js [jm 4 kf] [4] .ret) .skip)) (.seq (js [jf 10 1 2,jk 11 10,jf 12 1 3,jk 13 12,jb 14 .neq .i 11 13] [2,3,14] (.cond 14 (js [jm 4 kf] [4] .ret) .skip)) (.seq (js [jf 15 2 2,jk 16 15,jf 17 2 3,jk 18 17,jb 19 .neq .i 16 18] [2,3,19] (.cond 19 (js [jm 4 kf] [4] .ret) .skip)) (.seq (js [jf 20 3 2,jk 21 20,jf 22 3 3,jk 23 22,jb 24 .neq .s 21 23] [2,3,24] (.cond 24 (js [jm 4 kf] [4] .ret) .skip)) (.seq (js [jf 25 4 2,jl 26 2 25,jf 27 4 3,jl 28 2 27,jc 29 54 [26,28],jq 30 (.not 29)] [30] (.cond 30 (js [jm 4 kf] [4] .ret) .skip)) (js [jm 4 kt] [4] .ret))))))
def rv20:List RV:=[.t 4]
def iS (g:G) (t:TE) (a0:Scan) (a1:Scan):Bool:=
 br (g.eq a0.Thing a1.Thing)
 (
  br (g.eq a0.At a1.At)
  (
   br (g.eq a0.Kind a1.Kind)
   (
    br (g.seq a0.Place a1.Place)
    (
     lP (iC g t (Trip.mk a0.Trip.Leg a0.Trip.Day) (Trip.mk a1.Trip.Leg a1.Trip.Day)) fun x1=>
     br x1
     (
      true)
     (
      false))
    (
     false))
   (
    false))
  (
   false))
 (
  false)
theorem tm {g:G} {t:TE} {a0:Scan} {a1:Scan} {r:Bool} (hg:g=G.real) (ht:t=TE.real) (h:iS g t a0 a1=r):Fn Tryz.prog 20 [.g (Scan.rs t a0),.g (Scan.rs t a1)] (.c (.r (.v (.bool r)))):=by
 obtain⟨X,hX⟩:=au (.c (.r (.v (.bool r))):X);rw[←hX];refine aq (rvs:=rv20) (j:=ir20) Tryz.func20 rfl (by kernel_rfl) (nb rfl) (by kernel_rfl) ac ?_;intro g2 F hg2 hF;obtain rfl:g2=g:=hg2.unique.trans hg.symm;clear hg2;obtain⟨_,_,_,eq,_,_,_,_,_,_,_,_,_,_,_,_,_,seq⟩:=g2;obtain⟨_⟩:=t;obtain⟨a0_Thing,a0_At,a0_Kind,a0_Place,⟨a0_Trip_Leg,a0_Trip_Day⟩⟩:=a0
 obtain⟨a1_Thing,a1_At,a1_Kind,a1_Place,⟨a1_Trip_Leg,a1_Trip_Day⟩⟩:=a1;unfold iS at h;try dsimp only at h
 cbv
 cases hb1:(eq a0_Thing a1_Thing)
 ·rw[aa hb1] at h;cbv;subst h;exact ARet.mk trivial hX.symm
 rw[ab hb1] at h;cbv
 cases hb2:(eq a0_At a1_At)
 ·rw[aa hb2] at h;cbv;subst h;exact ARet.mk trivial hX.symm
 rw[ab hb2] at h;cbv
 cases hb3:(eq a0_Kind a1_Kind)
 ·rw[aa hb3] at h;cbv;subst h;exact ARet.mk trivial hX.symm
 rw[ab hb3] at h;cbv
 cases hb4:(seq a0_Place a1_Place)
 ·rw[aa hb4] at h;cbv;subst h;exact ARet.mk trivial hX.symm
 rw[ab hb4] at h;cbv;obtain⟨x1,hx1,h⟩:=aj h;try dsimp only at h
 refine ACall.mk _ _ rfl (hF _ _ _ (s7 hg ht hx1)) (.inl rfl) (nb rfl) ?_;cbv
 cases hb5:x1
 rotate_left
 ·rw[ab hb5] at h;cbv;subst h;exact ARet.mk trivial hX.symm
 rw[aa hb5] at h;cbv;subst h;exact ARet.mk trivial hX.symm
def ir77:J:=js [jq 2 (.box 0),jq 3 (.box 1),jm 4 kf] [2,3] (.seq (js [jf 5 0 2,jk 6 5,jf 7 0 3,jk 8 7,jb 9 .neq .s 6 8] [2,3,9] (.cond 9 (js [jm 4 kf] [4] .ret) .skip)) (.seq (js [jf 10 1 2,jk 11 10,jf 12 1 3,jk 13 12,jb 14 .neq .s 11 13] [2,3,14] (.cond 14 (js [jm 4 kf] [4] .ret) .skip)) (.seq (js [jf 15 2 2,jk 16 15,jf 17 2 3,jk 18 17,jb 19 .neq .i 16 18] [2,3,19] (.cond 19 (js [jm 4 kf] [4] .ret) .skip)) (.seq (js [jf 20 3 2,jk 21 20,jf 22 3 3,jk 23 22,jb 24 .neq .i 21 23] [2,3,24] (.cond 24 (js [jm 4 kf] [4] .ret) .skip)) (.seq (js [jf 25 4 2,jk 26 25,jf 27 4 3,jk 28 27,jb 29 .neq .i 26 28] [2,3,29] (.cond 29 (js [jm 4 kf] [4] .ret) .skip)) (.seq (js [jf 30 5 2,jk 31 30,jf 32 5 3,jk 33 32,jb 34 .neq .i 31 33] [34] (.cond 34 (js [jm 4 kf] [4] .ret) .skip)) (js [jm 4 kt] [4] .ret)))))))
def rv77:List RV:=[.t 4]
def ky (g:G) (t:TE) (a0:Leg) (a1:Leg):Bool:=
 br (g.seq a0.From a1.From)
 (
  br (g.seq a0.To a1.To)
  (
   br (g.eq a0.Start a1.Start)
   (
    br (g.eq a0.Takes a1.Takes)
    (
     br (g.eq a0.Days a1.Days)
     (
      br (g.eq a0.Room a1.Room)
      (
       true)
      (
       false))
     (
      false))
    (
     false))
   (
    false))
  (
   false))
 (
  false)
theorem vv {g:G} {t:TE} {a0:Leg} {a1:Leg} {r:Bool} (hg:g=G.real) (ht:t=TE.real) (h:ky g t a0 a1=r):Fn Tryz.prog 77 [.g (Leg.rs t a0),.g (Leg.rs t a1)] (.c (.r (.v (.bool r)))):=by
 obtain⟨X,hX⟩:=au (.c (.r (.v (.bool r))):X);rw[←hX];refine aq (rvs:=rv77) (j:=ir77) Tryz.func77 rfl (by kernel_rfl) (nb rfl) (by kernel_rfl) ac ?_;intro g2 F hg2 hF;obtain rfl:g2=g:=hg2.unique.trans hg.symm;clear hg2;obtain⟨_,_,_,eq,_,_,_,_,_,_,_,_,_,_,_,_,_,seq⟩:=g2;obtain⟨_⟩:=t;obtain⟨a0_From,a0_To,a0_Start,a0_Takes,a0_Days,a0_Room⟩:=a0
 obtain⟨a1_From,a1_To,a1_Start,a1_Takes,a1_Days,a1_Room⟩:=a1;unfold ky at h;try dsimp only at h
 cbv
 cases hb1:(seq a0_From a1_From)
 ·rw[aa hb1] at h;cbv;subst h;exact ARet.mk trivial hX.symm
 rw[ab hb1] at h;cbv
 cases hb2:(seq a0_To a1_To)
 ·rw[aa hb2] at h;cbv;subst h;exact ARet.mk trivial hX.symm
 rw[ab hb2] at h;cbv
 cases hb3:(eq a0_Start a1_Start)
 ·rw[aa hb3] at h;cbv;subst h;exact ARet.mk trivial hX.symm
 rw[ab hb3] at h;cbv
 cases hb4:(eq a0_Takes a1_Takes)
 ·rw[aa hb4] at h;cbv;subst h;exact ARet.mk trivial hX.symm
 rw[ab hb4] at h;cbv
 cases hb5:(eq a0_Days a1_Days)
 ·rw[aa hb5] at h;cbv;subst h;exact ARet.mk trivial hX.symm
 rw[ab hb5] at h;cbv
 cases hb6:(eq a0_Room a1_Room)
 rotate_left
 ·rw[ab hb6] at h;cbv;subst h;exact ARet.mk trivial hX.symm
 rw[aa hb6] at h;cbv;subst h;exact ARet.mk trivial hX.symm
def ir55:J:=js [jm 4 kf] [0,1] (.seq (js [jm 6 0,jq 7 (.len false 6),jm 8 1,jq 9 (.len false 8),jb 10 .neq .i 7 9] [0,1,10] (.cond 10 (js [jm 4 kf] [4] .ret) .skip)) (.seq (js [jm 5 (ki 0)] [0,1,5] (.bl 0 (.seq (js [jm 11 5,jm 12 0,jq 13 (.len false 12),jb 14 .lss .i 11 13] [0,1,5,14] (.cond 14 .skip (.exit 0))) (.seq (.block 1 (.seq (.reg (some [[],[],[0,1],[0,1,2],[],[],[4,5],[4,5,6],[0,1,2,3,4,5,6,7],[0,1,2,3,4,5,6,7,8]]) [jm 17 0,jm 18 5,ja 19 6 17 18,jl 20 6 19,jm 21 1,jm 22 5,ja 23 6 21 22,jl 24 6 23,jc 25 77 [20,24],jq 26 (.not 25)] [0,1,5,26]) (.cond 26 (js [jm 4 kf] [4] .ret) .skip))) (.reg none [jm 15 5,jb 16 .add .i 15 (ki 1),jm 5 16] [0,1,5]))))) (js [jm 4 kt] [4] .ret)))
def rv55:List RV:=[.t 4]
def cL (g:G) (t:TE) (a1:List Leg):List Leg→Int→Option (LR Bool Unit)
 |[],v1=>
  some (LR.out ())
 |z1::ls1,v1=>
  gt a1 (g.nat v1) fun x1=>
  lP (ky g t z1 x1) fun x2=>
  br x2
  (
   cL g t a1 ls1 (g.wrap .i64 (g.add v1 1)))
  (
   some (LR.ret false))
def iq (g:G) (t:TE) (a0:List Leg) (a1:List Leg):Option Bool:=
 br (g.eq (g.llen (t.r_Leg a0)) (g.llen (t.r_Leg a1)))
 (
  cl (cL g t a1 a0 0) fun o1=>lr o1 fun y1=>
  some true)
 (
  some false)
theorem s5 {g:G} {t:TE} {a0:List Leg} {a1:List Leg} {r:Bool} (hg:g=G.real) (ht:t=TE.real) (h:iq g t a0 a1=some r):Fn Tryz.prog 55 [.c (.s 6 (t.r_Leg a0)),.c (.s 6 (t.r_Leg a1))] (.c (.r (.v (.bool r)))):=by
 obtain⟨X,hX⟩:=au (.c (.r (.v (.bool r))):X);rw[←hX];refine aq (rvs:=rv55) (j:=ir55) Tryz.func55 rfl (by kernel_rfl) (nb rfl) (by kernel_rfl) ac ?_;intro g2 F hg2 hF;obtain rfl:g2=g:=hg2.unique.trans hg.symm;clear hg2;obtain⟨wrap,lt,_,eq,_,_,_,_,_,_,_,_,_,add,_,_,_,_,_,_,_,llen⟩:=g2;obtain⟨_,_,r_Leg⟩:=t;unfold iq at h;try dsimp only at h
 cbv
 cases hb1:(eq (llen (r_Leg a0)) (llen (r_Leg a1)))
 ·rw[aa hb1] at h;cbv;obtain rfl:=Option.some.inj h;exact ARet.mk trivial hX.symm
 rw[ab hb1] at h;cbv;obtain⟨o1,ho1,h⟩:=ae h;try dsimp only at h
 try rw[hg] at ho1
 try rw[ht] at ho1
 refine ABL.mk {p:Nat×Int//p.1≤a0.length∧p.2=((p.1:Nat):Int)∧cL G.real TE.real a1 (List.drop p.1 a0) p.2=some o1} (fun⟨⟨k1,v1⟩,_⟩=>({sl:=[(0,.c (.r (.s 6 (r_Leg a0)))),(1,.c (.r (.s 6 (r_Leg a1)))),(5,.c (.r (.v (.int .i64 v1))))],tab:=[]}:St)) 0 (fun p=>a0.length-p.1.1) ⟨(0,0),Nat.zero_le _,rfl,ho1⟩ (Unit) (fun _=>({sl:=[],tab:=[]}:St)) 0 (fun y=>o1=LR.out y) ?_ ?_ ?_
 ·refine Wk.of [] rfl rfl ?_ ?_
  ·cbv;all_goals exact⟨⟨_,rfl,rfl⟩,⟨_,rfl,rfl⟩,⟨_,rfl,rfl⟩,trivial⟩
  cbv;all_goals exact trivial
 ·rintro⟨⟨k1,v1⟩,hk1,hi1,h_1⟩ hq1;have hm1:=(hq1.1 0 _ _ rfl);try dsimp only at hk1 hi1 h_1
  clear hq1;cbv
  by_cases hc1_:k1<a0.length
  ·have hb2:lt v1 (llen (r_Leg a0))=true:=dw hg ht hi1 hc1_;have hs1:=fM hg ht hi1 hc1_ hm1;obtain⟨z1,hz1⟩:=a8 hc1_;rw[aN hz1] at h_1;rw[cL] at h_1;obtain⟨z1_From,z1_To,z1_Start,z1_Takes,z1_Days,z1_Room⟩:=z1;try rw[←hg] at h_1
   try rw[←ht] at h_1
   try dsimp only at h_1
   rw[hb2];cbv;refine AStep.mk (ic hi1) ?_;cbv;refine AGet.mk _ (eQ hg ht hi1 hz1) ?_;cbv;refine AStep.mk (ic hi1) ?_;cbv;obtain⟨x1,hx1,h_1⟩:=aP h_1;obtain⟨x1_From,x1_To,x1_Start,x1_Takes,x1_Days,x1_Room⟩:=x1;try dsimp only at h_1
   refine AGet.mk _ (bw hg ht hx1) ?_;cbv;obtain⟨x2,hx2,h_1⟩:=aj h_1;try dsimp only at h_1
   refine ACall.mk _ _ rfl (hF _ _ _ (vv hg ht hx2)) (.inl rfl) (nb rfl) ?_;cbv
   cases hb3:x2
   ·rw[aa hb3] at h_1;cbv;obtain rfl:=Option.some.inj h_1;try dsimp only[lr,lrL,lrp,bu] at h
    obtain rfl:=Option.some.inj h;exact ARet.mk trivial hX.symm
   rw[ab hb3] at h_1;cbv;try rw[hg] at h_1
   try rw[ht] at h_1
   refine⟨⟨(k1+1,(wrap .i64 (add v1 1))),hc1_,hs1,h_1⟩,Wk.of [] rfl rfl ?_ ?_,db hc1_⟩
   ·cbv;all_goals exact⟨⟨_,rfl,rfl⟩,⟨_,rfl,rfl⟩,⟨_,rfl,rfl⟩,trivial⟩
   cbv;all_goals exact trivial
  have hb2:lt v1 (llen (r_Leg a0))=false:=c6 hg ht hi1 hc1_;rw[List.drop_of_length_le (Nat.le_of_not_lt hc1_)] at h_1;rw[cL] at h_1;try rw[←hg] at h_1
  try rw[←ht] at h_1
  try dsimp only at h_1
  rw[hb2];cbv;refine⟨(),Wk.of [] rfl rfl ?_ ?_,(Option.some.inj h_1).symm⟩
  ·cbv;all_goals exact trivial
  cbv;all_goals exact trivial
 rintro _ hy1;replace hy1:=hy1.symm;subst hy1;try dsimp only[lr,lrL,lrp,bu] at h
 cbv;obtain rfl:=Option.some.inj h;exact ARet.mk trivial hX.symm
def ir56:J:=js [jm 4 kf] [0,1] (.seq (js [jm 6 0,jq 7 (.len false 6),jm 8 1,jq 9 (.len false 8),jb 10 .neq .i 7 9] [0,1,10] (.cond 10 (js [jm 4 kf] [4] .ret) .skip)) (.seq (js [jm 5 (ki 0)] [0,1,5] (.bl 0 (.seq (js [jm 11 5,jm 12 0,jq 13 (.len false 12),jb 14 .lss .i 11 13] [0,1,5,14] (.cond 14 .skip (.exit 0))) (.seq (.block 1 (.seq (.reg (some [[],[],[0,1],[0,1,2],[],[],[4,5],[4,5,6],[0,1,2,3,4,5,6,7]]) [jm 17 0,jm 18 5,ja 19 1 17 18,jk 20 19,jm 21 1,jm 22 5,ja 23 1 21 22,jk 24 23,jb 25 .neq .i 20 24] [0,1,5,25]) (.cond 25 (js [jm 4 kf] [4] .ret) .skip))) (.reg none [jm 15 5,jb 16 .add .i 15 (ki 1),jm 5 16] [0,1,5]))))) (js [jm 4 kt] [4] .ret)))
def rv56:List RV:=[.t 4]
def cR (g:G) (t:TE) (a1:List Int):List Int→Int→Option (LR Bool Unit)
 |[],v1=>
  some (LR.out ())
 |z1::ls1,v1=>
  gt a1 (g.nat v1) fun x1=>
  br (g.eq z1 x1)
  (
   cR g t a1 ls1 (g.wrap .i64 (g.add v1 1)))
  (
   some (LR.ret false))
def iv (g:G) (t:TE) (a0:List Int) (a1:List Int):Option Bool:=
 br (g.eq (g.llen (t.r_I64 a0)) (g.llen (t.r_I64 a1)))
 (
  cl (cR g t a1 a0 0) fun o1=>lr o1 fun y1=>
  some true)
 (
  some false)
theorem ta {g:G} {t:TE} {a0:List Int} {a1:List Int} {r:Bool} (hg:g=G.real) (ht:t=TE.real) (h:iv g t a0 a1=some r):Fn Tryz.prog 56 [.c (.s 1 (t.r_I64 a0)),.c (.s 1 (t.r_I64 a1))] (.c (.r (.v (.bool r)))):=by
 obtain⟨X,hX⟩:=au (.c (.r (.v (.bool r))):X);rw[←hX];refine aq (rvs:=rv56) (j:=ir56) Tryz.func56 rfl (by kernel_rfl) (nb rfl) (by kernel_rfl) ac ?_;intro g2 F hg2 hF;obtain rfl:g2=g:=hg2.unique.trans hg.symm;clear hg2;obtain⟨wrap,lt,_,eq,_,_,_,_,_,_,_,_,_,add,_,_,_,_,_,_,_,llen⟩:=g2;obtain⟨_,_,_,_,r_I64⟩:=t;unfold iv at h;try dsimp only at h
 cbv
 cases hb1:(eq (llen (r_I64 a0)) (llen (r_I64 a1)))
 ·rw[aa hb1] at h;cbv;obtain rfl:=Option.some.inj h;exact ARet.mk trivial hX.symm
 rw[ab hb1] at h;cbv;obtain⟨o1,ho1,h⟩:=ae h;try dsimp only at h
 try rw[hg] at ho1
 try rw[ht] at ho1
 refine ABL.mk {p:Nat×Int//p.1≤a0.length∧p.2=((p.1:Nat):Int)∧cR G.real TE.real a1 (List.drop p.1 a0) p.2=some o1} (fun⟨⟨k1,v1⟩,_⟩=>({sl:=[(0,.c (.r (.s 1 (r_I64 a0)))),(1,.c (.r (.s 1 (r_I64 a1)))),(5,.c (.r (.v (.int .i64 v1))))],tab:=[]}:St)) 0 (fun p=>a0.length-p.1.1) ⟨(0,0),Nat.zero_le _,rfl,ho1⟩ (Unit) (fun _=>({sl:=[],tab:=[]}:St)) 0 (fun y=>o1=LR.out y) ?_ ?_ ?_
 ·refine Wk.of [] rfl rfl ?_ ?_
  ·cbv;all_goals exact⟨⟨_,rfl,rfl⟩,⟨_,rfl,rfl⟩,⟨_,rfl,rfl⟩,trivial⟩
  cbv;all_goals exact trivial
 ·rintro⟨⟨k1,v1⟩,hk1,hi1,h_1⟩ hq1;have hm1:=(hq1.1 0 _ _ rfl);try dsimp only at hk1 hi1 h_1
  clear hq1;cbv
  by_cases hc1_:k1<a0.length
  ·have hb2:lt v1 (llen (r_I64 a0))=true:=dE hg ht hi1 hc1_;have hs1:=fJ hg ht hi1 hc1_ hm1;obtain⟨z1,hz1⟩:=a8 hc1_;rw[aN hz1] at h_1;rw[cR] at h_1;try rw[←hg] at h_1
   try rw[←ht] at h_1
   try dsimp only at h_1
   rw[hb2];cbv;refine AStep.mk (ic hi1) ?_;cbv;refine AGet.mk _ (dW hg ht hi1 hz1) ?_;cbv;refine AStep.mk (ic hi1) ?_;cbv;obtain⟨x1,hx1,h_1⟩:=aP h_1;try dsimp only at h_1
   refine AGet.mk _ (gI hg ht hx1) ?_;cbv
   cases hb3:(eq z1 x1)
   ·rw[aa hb3] at h_1;cbv;obtain rfl:=Option.some.inj h_1;try dsimp only[lr,lrL,lrp,bu] at h
    obtain rfl:=Option.some.inj h;exact ARet.mk trivial hX.symm
   rw[ab hb3] at h_1;cbv;try rw[hg] at h_1
   try rw[ht] at h_1
   refine⟨⟨(k1+1,(wrap .i64 (add v1 1))),hc1_,hs1,h_1⟩,Wk.of [] rfl rfl ?_ ?_,db hc1_⟩
   ·cbv;all_goals exact⟨⟨_,rfl,rfl⟩,⟨_,rfl,rfl⟩,⟨_,rfl,rfl⟩,trivial⟩
   cbv;all_goals exact trivial
  have hb2:lt v1 (llen (r_I64 a0))=false:=da hg ht hi1 hc1_;rw[List.drop_of_length_le (Nat.le_of_not_lt hc1_)] at h_1;rw[cR] at h_1;try rw[←hg] at h_1
  try rw[←ht] at h_1
  try dsimp only at h_1
  rw[hb2];cbv;refine⟨(),Wk.of [] rfl rfl ?_ ?_,(Option.some.inj h_1).symm⟩
  ·cbv;all_goals exact trivial
  cbv;all_goals exact trivial
 rintro _ hy1;replace hy1:=hy1.symm;subst hy1;try dsimp only[lr,lrL,lrp,bu] at h
 cbv;obtain rfl:=Option.some.inj h;exact ARet.mk trivial hX.symm
def ir21:J:=js [jq 2 (.box 0),jq 3 (.box 1),jm 4 kf] [2,3] (.seq (js [jf 5 0 2,jk 6 5,jf 7 0 3,jk 8 7,jc 9 55 [6,8],jq 10 (.not 9)] [2,3,10] (.cond 10 (js [jm 4 kf] [4] .ret) .skip)) (.seq (js [jf 11 1 2,jk 12 11,jf 13 1 3,jk 14 13,jc 15 56 [12,14],jq 16 (.not 15)] [2,3,16] (.cond 16 (js [jm 4 kf] [4] .ret) .skip)) (.seq (js [jf 17 2 2,jk 18 17,jf 19 2 3,jk 20 19,jb 21 .neq .i 18 20] [21] (.cond 21 (js [jm 4 kf] [4] .ret) .skip)) (js [jm 4 kt] [4] .ret))))
def rv21:List RV:=[.t 4]
def ei (g:G) (t:TE) (a0:Network) (a1:Network):Option Bool:=
 cl (iq g t a0.Legs a1.Legs) fun x1=>
 br x1
 (
  cl (iv g t a0.Off a1.Off) fun x2=>
  br x2
  (
   br (g.eq a0.Change a1.Change)
   (
    some true)
   (
    some false))
  (
   some false))
 (
  some false)
theorem jJ {g:G} {t:TE} {a0:Network} {a1:Network} {r:Bool} (hg:g=G.real) (ht:t=TE.real) (h:ei g t a0 a1=some r):Fn Tryz.prog 21 [.g (Network.rs t a0),.g (Network.rs t a1)] (.c (.r (.v (.bool r)))):=by
 obtain⟨X,hX⟩:=au (.c (.r (.v (.bool r))):X);rw[←hX];refine aq (rvs:=rv21) (j:=ir21) Tryz.func21 rfl (by kernel_rfl) (nb rfl) (by kernel_rfl) ac ?_;intro g2 F hg2 hF;obtain rfl:g2=g:=hg2.unique.trans hg.symm;clear hg2;obtain⟨_,_,_,eq⟩:=g2;obtain⟨_⟩:=t;obtain⟨a0_Legs,a0_Off,a0_Change⟩:=a0
 obtain⟨a1_Legs,a1_Off,a1_Change⟩:=a1;unfold ei at h;try dsimp only at h
 cbv;obtain⟨x1,hx1,h⟩:=ae h;try dsimp only at h
 refine ACall.mk _ _ rfl (hF _ _ _ (s5 hg ht hx1)) (.inl rfl) (nb rfl) ?_;cbv
 cases hb1:x1
 ·rw[aa hb1] at h;cbv;obtain rfl:=Option.some.inj h;exact ARet.mk trivial hX.symm
 rw[ab hb1] at h;cbv;obtain⟨x2,hx2,h⟩:=ae h;try dsimp only at h
 refine ACall.mk _ _ rfl (hF _ _ _ (ta hg ht hx2)) (.inl rfl) (nb rfl) ?_;cbv
 cases hb2:x2
 ·rw[aa hb2] at h;cbv;obtain rfl:=Option.some.inj h;exact ARet.mk trivial hX.symm
 rw[ab hb2] at h;cbv
 cases hb3:(eq a0_Change a1_Change)
 rotate_left
 ·rw[ab hb3] at h;cbv;obtain rfl:=Option.some.inj h;exact ARet.mk trivial hX.symm
 rw[aa hb3] at h;cbv;obtain rfl:=Option.some.inj h;exact ARet.mk trivial hX.symm
def ir4:J:=js [jq 2 (.box 0),jm 4 kf] [1,2] (.seq (js [jm 11 1,jq 12 (.len true 11),jb 13 .gtr .i 12 (ki 1048576)] [1,2,13] (.cond 13 (js [jm 4 kt] [4] .ret) .skip)) (js [jm 5 (ki 1048576)] [1,2,5] (js [jl 14 3 2,jm 15 5,jc 16 17 [14,15],jm 5 16] [1,2,5] (.seq (js [jm 17 5,jb 18 .lss .i 17 (ki 0)] [1,2,18] (.cond 18 (js [jm 4 kt] [4] .ret) .skip)) (js [jl 20 3 2,jq 21 (.call 19 false [20]),jm 22 1,jc 23 18 [21,22],jm 19 23,jq 24 (.ext 0 19),jq 25 (.ext 1 19),jq 6 (.alloc [.r (.v (.int .i64 0)),.r (.v (.int .i64 0)),.r (.v (.int .i64 0)),.r (.v (.string .empty)),.r (.v (.int .i64 0)),.r (.v (.int .i64 0))]),jp (.st 6 6 24),jm 7 25] [1,2,6,7] (js [jl 26 3 2,jq 27 (.call 19 false [26]),jq 8 (.alloc [.n 6,.n 1,.r (.v (.int .i64 0))]),jp (.st 3 8 27)] [1,2,6,7,8] (js [jl 29 3 8,jm 30 1,jc 31 9 [29,30],jm 28 31,jq 32 (.ext 0 28),jq 33 (.ext 1 28),jq 9 (.alloc [.r (.v (.int .i64 0)),.r (.v (.int .i64 0)),.r (.v (.int .i64 0)),.r (.v (.string .empty)),.r (.v (.int .i64 0)),.r (.v (.int .i64 0))]),jp (.st 6 9 32),jm 10 33] [2,6,7,8,9,10] (.seq (js [jl 34 6 9,jl 35 6 6,jc 36 20 [34,35],jq 37 (.not 36),jm 38 37,jv 39 38 (.mv 10),jv 40 38 (.mv 7),jv 41 38 (.bin .neq .b 39 40),jq 42 (.pick 38 kt 41)] [2,8,42] (.cond 42 (js [jm 4 kf] [4] .ret) .skip)) (.seq (.seq (.reg (some [[],[],[1],[0,1,2],[0,1,2,3]]) [jl 43 3 8,jl 44 3 2,jq 45 (.call 19 false [44]),jc 46 21 [43,45],jq 47 (.not 46)] [47]) (.cond 47 (js [jm 4 kf] [4] .ret) .skip)) (js [jm 4 kt] [4] .ret))))))))))
def rv4:List RV:=[.t 4]
def cU (g:G) (t:TE) (a0:Network) (a1:ByteArray):Option Bool:=
 br (g.lt 1048576 (g.int (g.slen a1)))
 (
  some true)
 (
  lP (fm g t a0 1048576) fun x1=>
  br (g.lt x1 0)
  (
   some true)
  (
   cl (cO g t a0) fun x2=>
   cl (eX g t x2 a1) fun x3=>
   cl (cO g t a0) fun x4=>
   cl (eh g t x4 a1) fun x5=>
   lP (iS g t (Scan.mk x5.1.Thing x5.1.At x5.1.Kind x5.1.Place (Trip.mk x5.1.Trip.Leg x5.1.Trip.Day)) (Scan.mk x3.1.Thing x3.1.At x3.1.Kind x3.1.Place (Trip.mk x3.1.Trip.Leg x3.1.Trip.Day))) fun x6=>
   br x6
   (
    br x5.2
    (
     br x3.2
     (
      cl (cO g t a0) fun x7=>
      cl (ei g t x4 x7) fun x8=>
      br x8
      (
       some true)
      (
       some false))
     (
      some false))
    (
     br x3.2
     (
      some false)
     (
      cl (cO g t a0) fun x9=>
      cl (ei g t x4 x9) fun x10=>
      br x10
      (
       some true)
      (
       some false))))
   (
    some false)))
theorem iP {g:G} {t:TE} {a0:Network} {a1:ByteArray} {r:Bool} (hg:g=G.real) (ht:t=TE.real) (h:cU g t a0 a1=some r):Fn Tryz.prog 4 [.g (Network.rs t a0),.c (.v (.string a1))] (.c (.r (.v (.bool r)))):=by
 obtain⟨X,hX⟩:=au (.c (.r (.v (.bool r))):X);rw[←hX];refine aq (rvs:=rv4) (j:=ir4) Tryz.func4 rfl (by kernel_rfl) (nb rfl) (by kernel_rfl) ac ?_;intro g2 F hg2 hF;obtain rfl:g2=g:=hg2.unique.trans hg.symm;clear hg2;obtain⟨_,lt,_,_,_,_,_,_,_,_,_,_,int,_,_,_,_,_,_,_,_,_,_,_,_,_,_,_,_,rda,_,_,_,_,_,slen⟩:=g2;obtain⟨_,_,r_Leg,d_Leg,r_I64,d_I64⟩:=t;obtain⟨a0_Legs,a0_Off,a0_Change⟩:=a0
 have hrda_Leg:∀l,rda (d_Leg l)=r_Leg l:=qt hg ht;have hrda_I64:∀l,rda (d_I64 l)=r_I64 l:=nd hg ht;unfold cU at h;try dsimp only at h
 cbv
 cases hb1:(lt 1048576 (int (slen a1)))
 rotate_left
 ·rw[ab hb1] at h;cbv;obtain rfl:=Option.some.inj h;exact ARet.mk trivial hX.symm
 rw[aa hb1] at h;cbv;obtain⟨x1,hx1,h⟩:=aj h;try dsimp only at h
 refine ACall.mk _ _ rfl (hF _ _ _ (ph hg ht hx1)) (.inl rfl) (nb rfl) ?_;cbv
 cases hb2:(lt x1 0)
 rotate_left
 ·rw[ab hb2] at h;cbv;obtain rfl:=Option.some.inj h;exact ARet.mk trivial hX.symm
 rw[aa hb2] at h;cbv;obtain⟨x2,hx2,h⟩:=ae h;obtain⟨x2_Legs,x2_Off,x2_Change⟩:=x2;try dsimp only at h
 refine ACallR.mk _ _ (.g [.r (.s 6 (r_Leg x2_Legs)),.r (.s 1 (r_I64 x2_Off)),.r (.v (.int .i64 x2_Change))]) rfl (hF _ _ _ (eU hg ht hx2)) (.inl rfl) (nb rfl) (by cbv;(try simp only[hrda_I64,hrda_Leg])) ?_;cbv;obtain⟨x3,hx3,h⟩:=ae h;obtain⟨⟨x3_1_Thing,x3_1_At,x3_1_Kind,x3_1_Place,⟨x3_1_Trip_Leg,x3_1_Trip_Day⟩⟩,x3_2⟩:=x3;try dsimp only at h
 refine ACall.mk _ _ rfl (hF _ _ _ (pi hg ht hx3)) (.inl rfl) (nb rfl) ?_;cbv;obtain⟨x4,hx4,h⟩:=ae h;obtain⟨x4_Legs,x4_Off,x4_Change⟩:=x4;try dsimp only at h
 refine ACallR.mk _ _ (.g [.r (.s 6 (r_Leg x4_Legs)),.r (.s 1 (r_I64 x4_Off)),.r (.v (.int .i64 x4_Change))]) rfl (hF _ _ _ (eU hg ht hx4)) (.inl rfl) (nb rfl) (by cbv;(try simp only[hrda_I64,hrda_Leg])) ?_;cbv;obtain⟨x5,hx5,h⟩:=ae h;obtain⟨⟨x5_1_Thing,x5_1_At,x5_1_Kind,x5_1_Place,⟨x5_1_Trip_Leg,x5_1_Trip_Day⟩⟩,x5_2⟩:=x5;try dsimp only at h
 refine ACall.mk _ _ rfl (hF _ _ _ (jG hg ht hx5)) (.inl rfl) (nb rfl) ?_;cbv;obtain⟨x6,hx6,h⟩:=aj h;try dsimp only at h
 refine ACall.mk _ _ rfl (hF _ _ _ (tm hg ht hx6)) (.inl rfl) (nb rfl) ?_;cbv
 cases hb3:x6
 ·rw[aa hb3] at h;cbv;iterate 3 try(rw[hb3];cbv)
  obtain rfl:=Option.some.inj h;exact ARet.mk trivial hX.symm
 rw[ab hb3] at h;cbv;iterate 2 try(rw[hb3];cbv)
 have hb4:x5_2=true∨x5_2=false:=by cases x5_2<;>simp
 rcases hb4 with hb4|hb4
 ·rw[ab hb4] at h;have hK_:=h;subst hb4;have h:=hK_;clear hK_;cbv;have hb5:x3_2=true∨x3_2=false:=by cases x3_2<;>simp
  rcases hb5 with hb5|hb5
  ·rw[ab hb5] at h;have hK_:=h;subst hb5;have h:=hK_;clear hK_;cbv;try(rw[hb3];cbv)
   obtain⟨x7,hx7,h⟩:=ae h;obtain⟨x7_Legs,x7_Off,x7_Change⟩:=x7;try dsimp only at h
   refine ACallR.mk _ _ (.g [.r (.s 6 (r_Leg x7_Legs)),.r (.s 1 (r_I64 x7_Off)),.r (.v (.int .i64 x7_Change))]) rfl (hF _ _ _ (eU hg ht hx7)) (.inl rfl) (nb rfl) (by cbv;(try simp only[hrda_I64,hrda_Leg])) ?_;cbv;obtain⟨x8,hx8,h⟩:=ae h;try dsimp only at h
   refine ACall.mk _ _ rfl (hF _ _ _ (jJ hg ht hx8)) (.inl rfl) (nb rfl) ?_;cbv
   cases hb6:x8
   rotate_left
   ·rw[ab hb6] at h;cbv;obtain rfl:=Option.some.inj h;exact ARet.mk trivial hX.symm
   rw[aa hb6] at h;cbv;obtain rfl:=Option.some.inj h;exact ARet.mk trivial hX.symm
  rw[aa hb5] at h;have hK_:=h;subst hb5;have h:=hK_;clear hK_;cbv;try(rw[hb3];cbv)
  obtain rfl:=Option.some.inj h;exact ARet.mk trivial hX.symm
 rw[aa hb4] at h;have hK_:=h;subst hb4;have h:=hK_;clear hK_;cbv;have hb7:x3_2=true∨x3_2=false:=by cases x3_2<;>simp
 rcases hb7 with hb7|hb7
 ·rw[ab hb7] at h;have hK_:=h;subst hb7;have h:=hK_;clear hK_;cbv;try(rw[hb3];cbv)
  obtain rfl:=Option.some.inj h;exact ARet.mk trivial hX.symm
 rw[aa hb7] at h;have hK_:=h;subst hb7;have h:=hK_;clear hK_;cbv;try(rw[hb3];cbv)
 obtain⟨x9,hx9,h⟩:=ae h;obtain⟨x9_Legs,x9_Off,x9_Change⟩:=x9;try dsimp only at h
 refine ACallR.mk _ _ (.g [.r (.s 6 (r_Leg x9_Legs)),.r (.s 1 (r_I64 x9_Off)),.r (.v (.int .i64 x9_Change))]) rfl (hF _ _ _ (eU hg ht hx9)) (.inl rfl) (nb rfl) (by cbv;(try simp only[hrda_I64,hrda_Leg])) ?_;cbv;obtain⟨x10,hx10,h⟩:=ae h;try dsimp only at h
 refine ACall.mk _ _ rfl (hF _ _ _ (jJ hg ht hx10)) (.inl rfl) (nb rfl) ?_;cbv
 cases hb8:x10
 rotate_left
 ·rw[ab hb8] at h;cbv;obtain rfl:=Option.some.inj h;exact ARet.mk trivial hX.symm
 rw[aa hb8] at h;cbv;obtain rfl:=Option.some.inj h;exact ARet.mk trivial hX.symm
end Go.Vs
