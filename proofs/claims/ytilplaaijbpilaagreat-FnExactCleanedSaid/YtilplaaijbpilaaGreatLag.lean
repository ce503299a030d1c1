/- Part of the proofs of this seat's laws: Lag. No condition. -/
import Derived.Test.YtilplaaijbpilaaGreatTy
import Derived.Test.YtilplaaijbpilaaGreatTIRall
set_option linter.unusedVariables false
set_option linter.unusedSimpArgs false
set_option linter.unusedSectionVars false
namespace Go.Vs
set_option maxRecDepth 100000
def ir31:J:=js [jm 4 (ki 0)] [0,1] (.seq (js [jm 5 (ki 0)] [0,1,5] (.bl 0 (.seq (js [jm 6 5,jm 7 0,jq 8 (.len false 7),jb 9 .lss .i 6 8] [0,1,5,9] (.cond 9 .skip (.exit 0))) (.seq (.block 1 (js [jm 12 0,jm 13 5,jm 14 1,ja 15 1 12 13,jp (.st 1 15 14)] [0,1,5] (.reg none [jm 16 1,jb 17 .add .i 16 (ki 1),jm 1 17] [0,1,5]))) (.reg none [jm 10 5,jb 11 .add .i 10 (ki 1),jm 5 11] [0,1,5]))))) (js [jm 18 1,jm 4 18] [4] .ret))
def rv31:List RV:=[.t 4]
open Go.Proofs Go.IntWalk
set_option linter.unusedVariables false
set_option maxHeartbeats 4000000
def ew (g:G) (t:TE):Nat→List Int→Int→Int→Option ((List Int)×Int)
 |0,_,_,_=>none
 |n1+1,w1,v1,v2=>
  br (g.lt v2 (g.int (g.dlen (t.d_I64 w1))))
  (
   gd (((0:Int)≤v2∧v2<(((g.dlen (t.d_I64 w1)):Nat):Int)))<|
   gt w1 (g.nat v2) fun x1=>
   lP (List.set w1 (g.nat v2) v1) fun(l1:List Int)=>
   ew g t n1 l1 (g.wrap .i64 (g.add v1 1)) (g.wrap .i64 (g.add v2 1)))
  (
   some (w1,v1))
def jN (g:G) (t:TE) (a0:List Int) (a1:Int):Option (Int×(List Int)):=
 cl (ew g t 1000000000 a0 a1 0) fun y1=>
 gd ((y1.1.length=a0.length))<|
 some ((y1.2,y1.1))
theorem qV {g:G} {t:TE} {a0:List Int} {a1:Int} {r:Int×(List Int)} (hg:g=G.real) (ht:t=TE.real) (h:jN g t a0 a1=some r):FnM Tryz.prog 31 (.m (.o 1 (t.d_I64 a0))) [.c (.v (.int .i64 a1))] (.c (.r (.v (.int .i64 r.1)))) (.m (.o 1 (t.d_I64 r.2))):=by
 obtain⟨X,hX⟩:=aH (.c (.r (.v (.int .i64 r.1))):X);obtain⟨Y,hY⟩:=aH (.m (.o 1 (t.d_I64 r.2)):AM);rw[←hX,←hY];refine pC (rvs:=rv31) (j:=ir31) Tryz.func31 rfl (by kernel_rfl) (nb rfl) (by kernel_rfl) af ?_;intro g2 F hg2 hF;obtain rfl:g2=g:=hg2.unique.trans hg.symm;clear hg2;obtain⟨wrap,lt,_,_,_,_,_,_,_,_,_,_,int,add,_,_,_,_,_,_,_,_,_,_,dlen⟩:=g2;obtain⟨_,_,_,d_I64⟩:=t
 unfold jN at h;try dsimp only at h
 cbv;obtain⟨o1,ho1,h⟩:=ac h;try dsimp only at h
 try rw[hg] at ho1
 try rw[ht] at ho1
 refine ABL.mk {p:Nat×(List Int)×Int×Int//ew G.real TE.real p.1 p.2.1 p.2.2.1 p.2.2.2=some o1} (fun⟨⟨n1,w1,v1,v2⟩,_⟩=>({sl:=[(0,.c (.f 0 1 0 (dlen (d_I64 w1)))),(1,.c (.r (.v (.int .i64 v1)))),(5,.c (.r (.v (.int .i64 v2))))],tab:=[(0,some (.arr 1 (d_I64 w1)))]}:St)) 1 (fun p=>p.1.1) ⟨(1000000000,a0,a1,0),ho1⟩ ((List Int)×Int) (fun⟨y1_1,y1_2⟩=>({sl:=[(1,.c (.r (.v (.int .i64 y1_2))))],tab:=[(0,some (.arr 1 (d_I64 y1_1)))]}:St)) 1 (fun y=>o1=y) ?_ ?_ ?_
 ·refine Wk.of [(0,some 0)] rfl rfl ?_ ?_
  ·cbv;all_goals exact⟨⟨_,rfl,rfl⟩,⟨_,rfl,rfl⟩,⟨_,rfl,rfl⟩,trivial⟩
  cbv;all_goals exact⟨⟨_,rfl,rfl⟩,trivial⟩
 ·rintro⟨⟨n1,w1,v1,v2⟩,h_1⟩ hq1;try dsimp only at h_1
  clear hq1;rcases n1 with _|n1
  ·rw[ew] at h_1;cases h_1
  rw[ew] at h_1;try rw[←hg] at h_1
  try rw[←ht] at h_1
  try dsimp only at h_1
  cbv
  cases hb1:(lt v2 (int (dlen (d_I64 w1))))
  ·rw[aa hb1] at h_1;cbv;refine⟨(w1,v1),Wk.of [(0,some 0)] rfl rfl ?_ ?_,(Option.some.inj h_1).symm⟩
   ·cbv;all_goals exact⟨⟨_,rfl,rfl⟩,trivial⟩
   cbv;all_goals exact⟨⟨_,rfl,rfl⟩,trivial⟩
  rw[ab hb1] at h_1;cbv;obtain⟨hc1,h_1⟩:=al h_1;refine AStep.mk hc1 ?_;cbv;obtain⟨x1,hx1,h_1⟩:=aE h_1;try dsimp only at h_1
  refine AGet.mk _ (bY hg ht hx1) ?_;cbv;obtain⟨l1,hl1,h_1⟩:=ak h_1;try dsimp only at h_1
  refine ANew.mk (d_I64 l1) _ (by rw[←hl1];exact lB hg ht _ _ v1) rfl ?_;have hnl1:(dlen (d_I64 w1))=(d_I64 l1).length:=(by rw[←hl1,jL ht];exact(am hg ht _));cbv;try rw[hg] at h_1
  try rw[ht] at h_1
  refine⟨⟨(n1,l1,(wrap .i64 (add v1 1)),(wrap .i64 (add v2 1))),h_1⟩,Wk.of [(0,some 0)] rfl rfl ?_ ?_,Nat.lt_succ_self _⟩
  ·cbv;all_goals try rw[show(dlen (d_I64 w1))=(dlen (d_I64 l1)) from(hnl1).trans (am hg ht _).symm]
   all_goals exact⟨⟨_,rfl,rfl⟩,⟨_,rfl,rfl⟩,⟨_,rfl,rfl⟩,trivial⟩
  cbv;all_goals try rw[show(dlen (d_I64 w1))=(dlen (d_I64 l1)) from(hnl1).trans (am hg ht _).symm]
  all_goals exact⟨⟨_,rfl,rfl⟩,trivial⟩
 rintro⟨y1_1,y1_2⟩ hy1;replace hy1:=hy1.symm;subst hy1;try dsimp only[lr,lrL,lrp,aR] at h
 cbv;obtain⟨hc2,h⟩:=al h;obtain rfl:=Option.some.inj h;exact ARetM.mk ⟨rfl,(mJ ht (am hg ht _) hc2)⟩ hX.symm hY.symm
def ir73 (s_k0 s_k1 s_k2:ByteArray):J:=js [jq 2 (.mv (.k (.c (.r (.v (.string s_k0))))))] [0] (.seq (js [jm 4 0,jb 5 .leq .i 4 (ki 0)] [0,5] (.cond 5 (js [jq 2 (.mv (.k (.c (.r (.v (.string s_k1))))))] [2] .ret) .skip)) (js [jq 3 (.mv (.k (.c (.r (.v (.string s_k0))))))] [0,3] (.seq (.bl 0 (.seq (js [jm 6 0,jb 7 .gtr .i 6 (ki 0)] [0,3,7] (.cond 7 .skip (.exit 0))) (.block 1 (js [jm 8 0,jb 9 .rem .i 8 (ki 10),jb 10 .add .i (ki 48) 9,jq 11 (.cvt .u8 10),jq 12 (.bsl 1 [11]),jq 13 (.b2s 12),jm 14 3,jb 15 .add .s 13 14,jm 3 15] [0,3] (.reg none [jm 16 0,jb 17 .quo .i 16 (ki 10),jm 0 17] [0,3]))))) (js [jm 18 3,jq 19 (.bin .add .s (.k (.c (.r (.v (.string s_k2))))) 18),jm 2 19] [2] .ret))))
def rv73:List RV:=[.t 2]
def ef (g:G) (t:TE):Nat→Int→ByteArray→Option ByteArray
 |0,_,_=>none
 |n1+1,v1,v2=>
  br (g.lt 0 v1)
  (
   lP ([(g.wrap .u8 (g.wrap .i64 (g.add 48 (g.rem v1 10))))]) fun(l1:List Int)=>
   gd (((g.bstr l1).size+v2.size≤70368744177664))<|
   ef g t n1 (g.wrap .i64 (g.quo v1 10)) (g.cat (g.bstr l1) v2))
  (
   some v2)
def fu (g:G) (t:TE) (a0:Int):Option ByteArray:=
 br (g.le a0 0)
 (
  some zW)
 (
  cl (ef g t 1000000000 a0 str_k0) fun y1=>
  gd ((uh.size+y1.size≤70368744177664))<|
  some (g.cat uh y1))
theorem g8 {g:G} {t:TE} {a0:Int} {r:ByteArray} (hg:g=G.real) (ht:t=TE.real) (h:fu g t a0=some r):Fn Tryz.prog 73 [.c (.v (.int .i64 a0))] (.c (.r (.v (.string r)))):=by
 obtain⟨X,hX⟩:=aH (.c (.r (.v (.string r))):X);rw[←hX];refine aw (rvs:=rv73) (j:=(ir73 str_k0 zW uh)) Tryz.func73 rfl (by kernel_rfl) (nb rfl) (by kernel_rfl) af ?_;intro g2 F hg2 hF;obtain rfl:g2=g:=hg2.unique.trans hg.symm;clear hg2;obtain⟨wrap,lt,le,_,quo,rem,_,_,_,_,_,_,_,add,_,_,cat,_,_,_,_,_,_,_,dlen,_,_,_,rd,_,_,_,_,_,_,_,_,_,_,_,_,_,_,bstr⟩:=g2;obtain⟨_,_,_,_,_,_,_,_,_,_,r_U8,d_U8⟩:=t
 unfold fu at h;try dsimp only at h
 obtain⟨s_k0,hs_k0⟩:∃s,str_k0=s:=⟨_,rfl⟩;try rw[hs_k0] at h
 rw[hs_k0];obtain⟨s_k1,hs_k1⟩:∃s,zW=s:=⟨_,rfl⟩;try rw[hs_k1] at h
 rw[hs_k1];obtain⟨s_k2,hs_k2⟩:∃s,uh=s:=⟨_,rfl⟩;try rw[hs_k2] at h
 rw[hs_k2];cbv
 cases hb1:(le a0 0)
 rotate_left
 ·rw[ab hb1] at h;cbv;obtain rfl:=Option.some.inj h;exact ARet.mk trivial hX.symm
 rw[aa hb1] at h;cbv;obtain⟨o1,ho1,h⟩:=ac h;try dsimp only at h
 try rw[hg] at ho1
 try rw[ht] at ho1
 refine ABL.mk {p:Nat×Int×ByteArray//ef G.real TE.real p.1 p.2.1 p.2.2=some o1} (fun⟨⟨n1,v1,v2⟩,_⟩=>({sl:=[(0,.c (.r (.v (.int .i64 v1)))),(3,.c (.r (.v (.string v2))))],tab:=[]}:St)) 0 (fun p=>p.1.1) ⟨(1000000000,a0,s_k0),ho1⟩ (ByteArray) (fun y1=>({sl:=[(3,.c (.r (.v (.string y1))))],tab:=[]}:St)) 0 (fun y=>o1=y) ?_ ?_ ?_
 ·refine Wk.of [] rfl rfl ?_ ?_
  ·cbv;all_goals exact⟨⟨_,rfl,rfl⟩,⟨_,rfl,rfl⟩,trivial⟩
  cbv;all_goals exact trivial
 ·rintro⟨⟨n1,v1,v2⟩,h_1⟩ hq1;try dsimp only at h_1
  clear hq1;rcases n1 with _|n1
  ·rw[ef] at h_1;cases h_1
  rw[ef] at h_1;try rw[←hg] at h_1
  try rw[←ht] at h_1
  try dsimp only at h_1
  try rw[hs_k0] at h_1
  try rw[hs_k1] at h_1
  try rw[hs_k2] at h_1
  cbv
  cases hb2:(lt 0 v1)
  ·rw[aa hb2] at h_1;cbv;refine⟨v2,Wk.of [] rfl rfl ?_ ?_,(Option.some.inj h_1).symm⟩
   ·cbv;all_goals exact⟨⟨_,rfl,rfl⟩,trivial⟩
   cbv;all_goals exact trivial
  rw[ab hb2] at h_1;cbv;refine AStep.mk (by decide) ?_;cbv;obtain⟨l1,hl1,h_1⟩:=ak h_1;try dsimp only at h_1
  refine ANew.mk (d_U8 l1) (dlen (d_U8 l1)) (by rw[←hl1];exact HC hg ht [(wrap .u8 (wrap .i64 (add 48 (rem v1 10))))]) (by rw[←hl1];exact FN hg ht [(wrap .u8 (wrap .i64 (add 48 (rem v1 10))))]) ?_;cbv;refine AStep.mk (F4 ht (AV hg ht _)) ?_;cbv;refine AB2.mk l1 (by rw[show rd (d_U8 l1) 0 (dlen (d_U8 l1))=r_U8 l1 from Gu hg ht (AV hg ht _)];exact HH ht _) ?_;cbv;obtain⟨hc1,h_1⟩:=al h_1;refine AStep.mk (Do hc1) ?_;cbv;refine AStep.mk (by decide) ?_;cbv;try rw[hg] at h_1
  try rw[ht] at h_1
  refine⟨⟨(n1,(wrap .i64 (quo v1 10)),(cat (bstr l1) v2)),h_1⟩,Wk.of [] rfl rfl ?_ ?_,Nat.lt_succ_self _⟩
  ·cbv;all_goals exact⟨⟨_,rfl,rfl⟩,⟨_,rfl,rfl⟩,trivial⟩
  cbv;all_goals exact trivial
 rintro y1 hy1;replace hy1:=hy1.symm;subst hy1;try dsimp only[lr,lrL,lrp,aR] at h
 cbv;obtain⟨hc2,h⟩:=al h;refine AStep.mk (Do hc2) ?_;cbv;obtain rfl:=Option.some.inj h;exact ARet.mk trivial hX.symm
def ir72:J:=js [jm 4 (ki 0)] [0,1] (.seq (js [jm 5 (ki 0)] [0,1,5] (.bl 0 (.seq (js [jm 6 5,jm 7 0,jq 8 (.len false 7),jb 9 .lss .i 6 8] [0,1,5,9] (.cond 9 .skip (.exit 0))) (.seq (.block 1 (js [jm 12 0,jm 13 5,jm 14 1,jc 15 73 [14],ja 16 6 12 13,jf 17 0 16,jp (.st 1 17 15)] [0,1,5] (js [jm 18 1,jb 19 .add .i 18 (ki 1),jm 1 19] [0,1,5] (js [jm 20 0,jm 21 5,jm 22 1,jc 23 73 [22],ja 24 6 20 21,jf 25 1 24,jp (.st 1 25 23)] [0,1,5] (js [jm 26 1,jb 27 .add .i 26 (ki 1),jm 1 27] [0,1,5] (js [jm 28 0,jm 29 5,jm 30 1,ja 31 6 28 29,jf 32 2 31,jp (.st 1 32 30)] [0,1,5] (js [jm 33 1,jb 34 .add .i 33 (ki 1),jm 1 34] [0,1,5] (js [jm 35 0,jm 36 5,jm 37 1,ja 38 6 35 36,jf 39 3 38,jp (.st 1 39 37)] [0,1,5] (js [jm 40 1,jb 41 .add .i 40 (ki 1),jm 1 41] [0,1,5] (js [jm 42 0,jm 43 5,jm 44 1,ja 45 6 42 43,jf 46 4 45,jp (.st 1 46 44)] [0,1,5] (js [jm 47 1,jb 48 .add .i 47 (ki 1),jm 1 48] [0,1,5] (js [jm 49 0,jm 50 5,jm 51 1,ja 52 6 49 50,jf 53 5 52,jp (.st 1 53 51)] [0,1,5] (.reg none [jm 54 1,jb 55 .add .i 54 (ki 1),jm 1 55] [0,1,5]))))))))))))) (.reg none [jm 10 5,jb 11 .add .i 10 (ki 1),jm 5 11] [0,1,5]))))) (js [jm 56 1,jm 4 56] [4] .ret))
def rv72:List RV:=[.t 4]
def ee (g:G) (t:TE):Nat→List Leg→Int→Int→Option ((List Leg)×Int)
 |0,_,_,_=>none
 |n1+1,w1,v1,v2=>
  br (g.lt v2 (g.int (g.dlen (t.d_Leg w1))))
  (
   cl (fu g t v1) fun x1=>
   gd (((0:Int)≤v2∧v2<(((g.dlen (t.d_Leg w1)):Nat):Int)))<|
   gt w1 (g.nat v2) fun x2=>
   lP (List.set w1 (g.nat v2) (Leg.mk x1 x2.To x2.Start x2.Takes x2.Days x2.Room)) fun(l1:List Leg)=>
   cl (fu g t (g.wrap .i64 (g.add v1 1))) fun x3=>
   gd (((0:Int)≤v2∧v2<(((g.dlen (t.d_Leg w1)):Nat):Int)))<|
   gt l1 (g.nat v2) fun x4=>
   lP (List.set l1 (g.nat v2) (Leg.mk x4.From x3 x4.Start x4.Takes x4.Days x4.Room)) fun(l2:List Leg)=>
   gd (((0:Int)≤v2∧v2<(((g.dlen (t.d_Leg w1)):Nat):Int)))<|
   gt l2 (g.nat v2) fun x5=>
   lP (List.set l2 (g.nat v2) (Leg.mk x5.From x5.To (g.wrap .i64 (g.add (g.wrap .i64 (g.add v1 1)) 1)) x5.Takes x5.Days x5.Room)) fun(l3:List Leg)=>
   gd (((0:Int)≤v2∧v2<(((g.dlen (t.d_Leg w1)):Nat):Int)))<|
   gt l3 (g.nat v2) fun x6=>
   lP (List.set l3 (g.nat v2) (Leg.mk x6.From x6.To x6.Start (g.wrap .i64 (g.add (g.wrap .i64 (g.add (g.wrap .i64 (g.add v1 1)) 1)) 1)) x6.Days x6.Room)) fun(l4:List Leg)=>
   gd (((0:Int)≤v2∧v2<(((g.dlen (t.d_Leg w1)):Nat):Int)))<|
   gt l4 (g.nat v2) fun x7=>
   lP (List.set l4 (g.nat v2) (Leg.mk x7.From x7.To x7.Start x7.Takes (g.wrap .i64 (g.add (g.wrap .i64 (g.add (g.wrap .i64 (g.add (g.wrap .i64 (g.add v1 1)) 1)) 1)) 1)) x7.Room)) fun(l5:List Leg)=>
   gd (((0:Int)≤v2∧v2<(((g.dlen (t.d_Leg w1)):Nat):Int)))<|
   gt l5 (g.nat v2) fun x8=>
   lP (List.set l5 (g.nat v2) (Leg.mk x8.From x8.To x8.Start x8.Takes x8.Days (g.wrap .i64 (g.add (g.wrap .i64 (g.add (g.wrap .i64 (g.add (g.wrap .i64 (g.add (g.wrap .i64 (g.add v1 1)) 1)) 1)) 1)) 1)))) fun(l6:List Leg)=>
   ee g t n1 l6 (g.wrap .i64 (g.add (g.wrap .i64 (g.add (g.wrap .i64 (g.add (g.wrap .i64 (g.add (g.wrap .i64 (g.add (g.wrap .i64 (g.add v1 1)) 1)) 1)) 1)) 1)) 1)) (g.wrap .i64 (g.add v2 1)))
  (
   some (w1,v1))
def lH (g:G) (t:TE) (a0:List Leg) (a1:Int):Option (Int×(List Leg)):=
 cl (ee g t 1000000000 a0 a1 0) fun y1=>
 gd ((y1.1.length=a0.length))<|
 some ((y1.2,y1.1))
theorem wk {g:G} {t:TE} {a0:List Leg} {a1:Int} {r:Int×(List Leg)} (hg:g=G.real) (ht:t=TE.real) (h:lH g t a0 a1=some r):FnM Tryz.prog 72 (.m (.o 6 (t.d_Leg a0))) [.c (.v (.int .i64 a1))] (.c (.r (.v (.int .i64 r.1)))) (.m (.o 6 (t.d_Leg r.2))):=by
 obtain⟨X,hX⟩:=aH (.c (.r (.v (.int .i64 r.1))):X);obtain⟨Y,hY⟩:=aH (.m (.o 6 (t.d_Leg r.2)):AM);rw[←hX,←hY];refine pC (rvs:=rv72) (j:=ir72) Tryz.func72 rfl (by kernel_rfl) (nb rfl) (by kernel_rfl) af ?_;intro g2 F hg2 hF;obtain rfl:g2=g:=hg2.unique.trans hg.symm;clear hg2;obtain⟨wrap,lt,_,_,_,_,_,_,_,_,_,_,int,add,_,_,_,_,_,_,_,_,_,_,dlen⟩:=g2;obtain⟨_,d_Leg⟩:=t
 unfold lH at h;try dsimp only at h
 cbv;obtain⟨o1,ho1,h⟩:=ac h;try dsimp only at h
 try rw[hg] at ho1
 try rw[ht] at ho1
 refine ABL.mk {p:Nat×(List Leg)×Int×Int//ee G.real TE.real p.1 p.2.1 p.2.2.1 p.2.2.2=some o1} (fun⟨⟨n1,w1,v1,v2⟩,_⟩=>({sl:=[(0,.c (.f 0 6 0 (dlen (d_Leg w1)))),(1,.c (.r (.v (.int .i64 v1)))),(5,.c (.r (.v (.int .i64 v2))))],tab:=[(0,some (.arr 6 (d_Leg w1)))]}:St)) 1 (fun p=>p.1.1) ⟨(1000000000,a0,a1,0),ho1⟩ ((List Leg)×Int) (fun⟨y1_1,y1_2⟩=>({sl:=[(1,.c (.r (.v (.int .i64 y1_2))))],tab:=[(0,some (.arr 6 (d_Leg y1_1)))]}:St)) 1 (fun y=>o1=y) ?_ ?_ ?_
 ·refine Wk.of [(0,some 0)] rfl rfl ?_ ?_
  ·cbv;all_goals exact⟨⟨_,rfl,rfl⟩,⟨_,rfl,rfl⟩,⟨_,rfl,rfl⟩,trivial⟩
  cbv;all_goals exact⟨⟨_,rfl,rfl⟩,trivial⟩
 ·rintro⟨⟨n1,w1,v1,v2⟩,h_1⟩ hq1;try dsimp only at h_1
  clear hq1;rcases n1 with _|n1
  ·rw[ee] at h_1;cases h_1
  rw[ee] at h_1;try rw[←hg] at h_1
  try rw[←ht] at h_1
  try dsimp only at h_1
  cbv
  cases hb1:(lt v2 (int (dlen (d_Leg w1))))
  ·rw[aa hb1] at h_1;cbv;refine⟨(w1,v1),Wk.of [(0,some 0)] rfl rfl ?_ ?_,(Option.some.inj h_1).symm⟩
   ·cbv;all_goals exact⟨⟨_,rfl,rfl⟩,trivial⟩
   cbv;all_goals exact⟨⟨_,rfl,rfl⟩,trivial⟩
  rw[ab hb1] at h_1;cbv;obtain⟨x1,hx1,h_1⟩:=ac h_1;try dsimp only at h_1
  refine ACall.mk _ _ rfl (hF _ _ _ (g8 hg ht hx1)) (.inl rfl) (nb rfl) ?_;cbv;obtain⟨hc1,h_1⟩:=al h_1;refine AStep.mk hc1 ?_;cbv;obtain⟨x2,hx2,h_1⟩:=aE h_1;obtain⟨x2_From,x2_To,x2_Start,x2_Takes,x2_Days,x2_Room⟩:=x2;try dsimp only at h_1
  refine AGet.mk _ (jQ hg ht hx2) ?_;cbv;obtain⟨l1,hl1,h_1⟩:=ak h_1;try dsimp only at h_1
  refine ANew.mk (d_Leg l1) _ (by rw[←hl1];exact lI hg ht _ _ (Leg.mk x1 x2_To x2_Start x2_Takes x2_Days x2_Room)) rfl ?_;have hnl1:(dlen (d_Leg w1))=(d_Leg l1).length:=(by rw[←hl1,j6 ht];exact(aN hg ht _));cbv;obtain⟨x3,hx3,h_1⟩:=ac h_1;try dsimp only at h_1
  refine ACall.mk _ _ rfl (hF _ _ _ (g8 hg ht hx3)) (.inl rfl) (nb rfl) ?_;cbv;obtain⟨hc2,h_1⟩:=al h_1;refine AStep.mk hc2 ?_;cbv;obtain⟨x4,hx4,h_1⟩:=aE h_1;obtain⟨x4_From,x4_To,x4_Start,x4_Takes,x4_Days,x4_Room⟩:=x4;try dsimp only at h_1
  refine AGet.mk _ (jQ hg ht hx4) ?_;cbv;obtain⟨l2,hl2,h_1⟩:=ak h_1;try dsimp only at h_1
  refine ANew.mk (d_Leg l2) _ (by rw[←hl2];exact lI hg ht _ _ (Leg.mk x4_From x3 x4_Start x4_Takes x4_Days x4_Room)) rfl ?_;have hnl2:(dlen (d_Leg w1))=(d_Leg l2).length:=(by rw[←hl2,j6 ht];exact hnl1);cbv;obtain⟨hc3,h_1⟩:=al h_1;refine AStep.mk hc3 ?_;cbv;obtain⟨x5,hx5,h_1⟩:=aE h_1;obtain⟨x5_From,x5_To,x5_Start,x5_Takes,x5_Days,x5_Room⟩:=x5;try dsimp only at h_1
  refine AGet.mk _ (jQ hg ht hx5) ?_;cbv;obtain⟨l3,hl3,h_1⟩:=ak h_1;try dsimp only at h_1
  refine ANew.mk (d_Leg l3) _ (by rw[←hl3];exact lI hg ht _ _ (Leg.mk x5_From x5_To (wrap .i64 (add (wrap .i64 (add v1 1)) 1)) x5_Takes x5_Days x5_Room)) rfl ?_;have hnl3:(dlen (d_Leg w1))=(d_Leg l3).length:=(by rw[←hl3,j6 ht];exact hnl2);cbv;obtain⟨hc4,h_1⟩:=al h_1;refine AStep.mk hc4 ?_;cbv;obtain⟨x6,hx6,h_1⟩:=aE h_1;obtain⟨x6_From,x6_To,x6_Start,x6_Takes,x6_Days,x6_Room⟩:=x6;try dsimp only at h_1
  refine AGet.mk _ (jQ hg ht hx6) ?_;cbv;obtain⟨l4,hl4,h_1⟩:=ak h_1;try dsimp only at h_1
  refine ANew.mk (d_Leg l4) _ (by rw[←hl4];exact lI hg ht _ _ (Leg.mk x6_From x6_To x6_Start (wrap .i64 (add (wrap .i64 (add (wrap .i64 (add v1 1)) 1)) 1)) x6_Days x6_Room)) rfl ?_;have hnl4:(dlen (d_Leg w1))=(d_Leg l4).length:=(by rw[←hl4,j6 ht];exact hnl3);cbv;obtain⟨hc5,h_1⟩:=al h_1;refine AStep.mk hc5 ?_;cbv;obtain⟨x7,hx7,h_1⟩:=aE h_1;obtain⟨x7_From,x7_To,x7_Start,x7_Takes,x7_Days,x7_Room⟩:=x7;try dsimp only at h_1
  refine AGet.mk _ (jQ hg ht hx7) ?_;cbv;obtain⟨l5,hl5,h_1⟩:=ak h_1;try dsimp only at h_1
  refine ANew.mk (d_Leg l5) _ (by rw[←hl5];exact lI hg ht _ _ (Leg.mk x7_From x7_To x7_Start x7_Takes (wrap .i64 (add (wrap .i64 (add (wrap .i64 (add (wrap .i64 (add v1 1)) 1)) 1)) 1)) x7_Room)) rfl ?_;have hnl5:(dlen (d_Leg w1))=(d_Leg l5).length:=(by rw[←hl5,j6 ht];exact hnl4);cbv;obtain⟨hc6,h_1⟩:=al h_1;refine AStep.mk hc6 ?_;cbv;obtain⟨x8,hx8,h_1⟩:=aE h_1;obtain⟨x8_From,x8_To,x8_Start,x8_Takes,x8_Days,x8_Room⟩:=x8;try dsimp only at h_1
  refine AGet.mk _ (jQ hg ht hx8) ?_;cbv;obtain⟨l6,hl6,h_1⟩:=ak h_1;try dsimp only at h_1
  refine ANew.mk (d_Leg l6) _ (by rw[←hl6];exact lI hg ht _ _ (Leg.mk x8_From x8_To x8_Start x8_Takes x8_Days (wrap .i64 (add (wrap .i64 (add (wrap .i64 (add (wrap .i64 (add (wrap .i64 (add v1 1)) 1)) 1)) 1)) 1)))) rfl ?_;have hnl6:(dlen (d_Leg w1))=(d_Leg l6).length:=(by rw[←hl6,j6 ht];exact hnl5);cbv;try rw[hg] at h_1
  try rw[ht] at h_1
  refine⟨⟨(n1,l6,(wrap .i64 (add (wrap .i64 (add (wrap .i64 (add (wrap .i64 (add (wrap .i64 (add (wrap .i64 (add v1 1)) 1)) 1)) 1)) 1)) 1)),(wrap .i64 (add v2 1))),h_1⟩,Wk.of [(0,some 0)] rfl rfl ?_ ?_,Nat.lt_succ_self _⟩
  ·cbv;all_goals try rw[show(dlen (d_Leg w1))=(dlen (d_Leg l6)) from(hnl6).trans (aN hg ht _).symm]
   all_goals exact⟨⟨_,rfl,rfl⟩,⟨_,rfl,rfl⟩,⟨_,rfl,rfl⟩,trivial⟩
  cbv;all_goals try rw[show(dlen (d_Leg w1))=(dlen (d_Leg l6)) from(hnl6).trans (aN hg ht _).symm]
  all_goals exact⟨⟨_,rfl,rfl⟩,trivial⟩
 rintro⟨y1_1,y1_2⟩ hy1;replace hy1:=hy1.symm;subst hy1;try dsimp only[lr,lrL,lrp,aR] at h
 cbv;obtain⟨hc7,h⟩:=al h;obtain rfl:=Option.some.inj h;exact ARetM.mk ⟨rfl,(yC ht (aN hg ht _) hc7)⟩ hX.symm hY.symm
def ir23:J:=js [jq 2 (.box 0),jm 4 (ki 0)] [1,2] (js [jf 5 0 2,jk 6 5,jm 7 1,jq 8 (.callm 72 6 [7]),jm 1 8] [1,2] (js [jf 9 1 2,jk 10 9,jm 11 1,jq 12 (.callm 31 10 [11]),jm 1 12] [1] (js [jm 13 1,jm 4 13] [4] .ret)))
def rv23:List RV:=[.t 4]
def cS (g:G) (t:TE) (a0:Network) (a1:Int):Option (Int×Network):=
 cl (lH g t a0.Legs a1) fun x1=>
 gd ((x1.2.length=a0.Legs.length))<|
 cl (jN g t a0.Off x1.1) fun x2=>
 gd ((x2.2.length=a0.Off.length))<|
 some ((x2.1,(Network.mk x1.2 x2.2 a0.Change)))
theorem eU {g:G} {t:TE} {a0:Network} {a1:Int} {r:Int×Network} (hg:g=G.real) (ht:t=TE.real) (h:cS g t a0 a1=some r):FnM Tryz.prog 23 (.g (Network.ds t a0)) [.c (.v (.int .i64 a1))] (.c (.r (.v (.int .i64 r.1)))) (.g (Network.ds t r.2)):=by
 obtain⟨X,hX⟩:=aH (.c (.r (.v (.int .i64 r.1))):X);obtain⟨Y,hY⟩:=aH (.g (Network.ds t r.2):AM);rw[←hX,←hY];refine pC (rvs:=rv23) (j:=ir23) Tryz.func23 rfl (by kernel_rfl) (nb rfl) (by kernel_rfl) af ?_;intro g2 F hg2 hF;obtain rfl:g2=g:=hg2.unique.trans hg.symm;clear hg2;obtain⟨_⟩:=g2;obtain⟨_⟩:=t
 obtain⟨a0_Legs,a0_Off,a0_Change⟩:=a0;unfold cS at h;try dsimp only at h
 cbv;refine AStep.mk ⟨rfl,(aN hg ht _)⟩ ?_;cbv;obtain⟨x1,hx1,h⟩:=ac h;obtain⟨x1_1,x1_2⟩:=x1;try dsimp only at h
 refine ACallM.mk _ _ _ _ rfl rfl (hF _ _ _ (wk hg ht hx1)) rfl (nb rfl) (nb rfl) ?_;cbv;obtain⟨hc1,h⟩:=al h;refine AStep.mk ⟨rfl,(am hg ht _)⟩ ?_;cbv;obtain⟨x2,hx2,h⟩:=ac h;obtain⟨x2_1,x2_2⟩:=x2;try dsimp only at h
 refine ACallM.mk _ _ _ _ rfl rfl (hF _ _ _ (qV hg ht hx2)) rfl (nb rfl) (nb rfl) ?_;cbv;obtain⟨hc2,h⟩:=al h;obtain rfl:=Option.some.inj h;exact ARetM.mk ⟨⟨rfl,(yC ht (aN hg ht _) hc1)⟩,⟨rfl,(mJ ht (am hg ht _) hc2)⟩⟩ hX.symm hY.symm
def ir24:J:=js [jm 4 (ki 0)] [0,1] (.seq (js [jm 5 (ki 0)] [0,1,5] (.bl 0 (.seq (js [jm 6 5,jm 7 0,jq 8 (.len false 7),jb 9 .lss .i 6 8] [0,1,5,9] (.cond 9 .skip (.exit 0))) (.seq (.block 1 (js [jm 12 0,jm 13 5,jm 14 1,ja 15 6 12 13,jf 16 0 15,jp (.st 1 16 14)] [0,1,5] (js [jm 17 1,jb 18 .add .i 17 (ki 1),jm 1 18] [0,1,5] (js [jm 19 0,jm 20 5,jm 21 1,ja 22 6 19 20,jf 23 1 22,jp (.st 1 23 21)] [0,1,5] (js [jm 24 1,jb 25 .add .i 24 (ki 1),jm 1 25] [0,1,5] (js [jm 26 0,jm 27 5,jm 28 1,ja 29 6 26 27,jf 30 2 29,jp (.st 1 30 28)] [0,1,5] (js [jm 31 1,jb 32 .add .i 31 (ki 1),jm 1 32] [0,1,5] (js [jm 33 0,jm 34 5,jm 35 1,jc 36 73 [35],ja 37 6 33 34,jf 38 3 37,jp (.st 1 38 36)] [0,1,5] (js [jm 39 1,jb 40 .add .i 39 (ki 1),jm 1 40] [0,1,5] (js [jm 41 0,jm 42 5,jm 43 1,ja 44 6 41 42,jf 45 4 44,jf 46 0 45,jp (.st 1 46 43)] [0,1,5] (js [jm 47 1,jb 48 .add .i 47 (ki 1),jm 1 48] [0,1,5] (js [jm 49 0,jm 50 5,jm 51 1,ja 52 6 49 50,jf 53 4 52,jf 54 1 53,jp (.st 1 54 51)] [0,1,5] (.reg none [jm 55 1,jb 56 .add .i 55 (ki 1),jm 1 56] [0,1,5]))))))))))))) (.reg none [jm 10 5,jb 11 .add .i 10 (ki 1),jm 5 11] [0,1,5]))))) (js [jm 57 1,jm 4 57] [4] .ret))
def rv24:List RV:=[.t 4]
def dM (g:G) (t:TE):Nat→List Scan→Int→Int→Option ((List Scan)×Int)
 |0,_,_,_=>none
 |n1+1,w1,v1,v2=>
  br (g.lt v2 (g.int (g.dlen (t.d_Scan w1))))
  (
   gd (((0:Int)≤v2∧v2<(((g.dlen (t.d_Scan w1)):Nat):Int)))<|
   gt w1 (g.nat v2) fun x1=>
   lP (List.set w1 (g.nat v2) (Scan.mk v1 x1.At x1.Kind x1.Place (Trip.mk x1.Trip.Leg x1.Trip.Day))) fun(l1:List Scan)=>
   gd (((0:Int)≤v2∧v2<(((g.dlen (t.d_Scan w1)):Nat):Int)))<|
   gt l1 (g.nat v2) fun x2=>
   lP (List.set l1 (g.nat v2) (Scan.mk x2.Thing (g.wrap .i64 (g.add v1 1)) x2.Kind x2.Place (Trip.mk x2.Trip.Leg x2.Trip.Day))) fun(l2:List Scan)=>
   gd (((0:Int)≤v2∧v2<(((g.dlen (t.d_Scan w1)):Nat):Int)))<|
   gt l2 (g.nat v2) fun x3=>
   lP (List.set l2 (g.nat v2) (Scan.mk x3.Thing x3.At (g.wrap .i64 (g.add (g.wrap .i64 (g.add v1 1)) 1)) x3.Place (Trip.mk x3.Trip.Leg x3.Trip.Day))) fun(l3:List Scan)=>
   cl (fu g t (g.wrap .i64 (g.add (g.wrap .i64 (g.add (g.wrap .i64 (g.add v1 1)) 1)) 1))) fun x4=>
   gd (((0:Int)≤v2∧v2<(((g.dlen (t.d_Scan w1)):Nat):Int)))<|
   gt l3 (g.nat v2) fun x5=>
   lP (List.set l3 (g.nat v2) (Scan.mk x5.Thing x5.At x5.Kind x4 (Trip.mk x5.Trip.Leg x5.Trip.Day))) fun(l4:List Scan)=>
   gd (((0:Int)≤v2∧v2<(((g.dlen (t.d_Scan w1)):Nat):Int)))<|
   gt l4 (g.nat v2) fun x6=>
   lP (List.set l4 (g.nat v2) (Scan.mk x6.Thing x6.At x6.Kind x6.Place (Trip.mk (g.wrap .i64 (g.add (g.wrap .i64 (g.add (g.wrap .i64 (g.add (g.wrap .i64 (g.add v1 1)) 1)) 1)) 1)) x6.Trip.Day))) fun(l5:List Scan)=>
   gd (((0:Int)≤v2∧v2<(((g.dlen (t.d_Scan w1)):Nat):Int)))<|
   gt l5 (g.nat v2) fun x7=>
   lP (List.set l5 (g.nat v2) (Scan.mk x7.Thing x7.At x7.Kind x7.Place (Trip.mk x7.Trip.Leg (g.wrap .i64 (g.add (g.wrap .i64 (g.add (g.wrap .i64 (g.add (g.wrap .i64 (g.add (g.wrap .i64 (g.add v1 1)) 1)) 1)) 1)) 1))))) fun(l6:List Scan)=>
   dM g t n1 l6 (g.wrap .i64 (g.add (g.wrap .i64 (g.add (g.wrap .i64 (g.add (g.wrap .i64 (g.add (g.wrap .i64 (g.add (g.wrap .i64 (g.add v1 1)) 1)) 1)) 1)) 1)) 1)) (g.wrap .i64 (g.add v2 1)))
  (
   some (w1,v1))
def cI (g:G) (t:TE) (a0:List Scan) (a1:Int):Option (Int×(List Scan)):=
 cl (dM g t 1000000000 a0 a1 0) fun y1=>
 gd ((y1.1.length=a0.length))<|
 some ((y1.2,y1.1))
theorem dB {g:G} {t:TE} {a0:List Scan} {a1:Int} {r:Int×(List Scan)} (hg:g=G.real) (ht:t=TE.real) (h:cI g t a0 a1=some r):FnM Tryz.prog 24 (.m (.o 6 (t.d_Scan a0))) [.c (.v (.int .i64 a1))] (.c (.r (.v (.int .i64 r.1)))) (.m (.o 6 (t.d_Scan r.2))):=by
 obtain⟨X,hX⟩:=aH (.c (.r (.v (.int .i64 r.1))):X);obtain⟨Y,hY⟩:=aH (.m (.o 6 (t.d_Scan r.2)):AM);rw[←hX,←hY];refine pC (rvs:=rv24) (j:=ir24) Tryz.func24 rfl (by kernel_rfl) (nb rfl) (by kernel_rfl) af ?_;intro g2 F hg2 hF;obtain rfl:g2=g:=hg2.unique.trans hg.symm;clear hg2;obtain⟨wrap,lt,_,_,_,_,_,_,_,_,_,_,int,add,_,_,_,_,_,_,_,_,_,_,dlen⟩:=g2;obtain⟨_,_,_,_,_,d_Scan⟩:=t
 unfold cI at h;try dsimp only at h
 cbv;obtain⟨o1,ho1,h⟩:=ac h;try dsimp only at h
 try rw[hg] at ho1
 try rw[ht] at ho1
 refine ABL.mk {p:Nat×(List Scan)×Int×Int//dM G.real TE.real p.1 p.2.1 p.2.2.1 p.2.2.2=some o1} (fun⟨⟨n1,w1,v1,v2⟩,_⟩=>({sl:=[(0,.c (.f 0 6 0 (dlen (d_Scan w1)))),(1,.c (.r (.v (.int .i64 v1)))),(5,.c (.r (.v (.int .i64 v2))))],tab:=[(0,some (.arr 6 (d_Scan w1)))]}:St)) 1 (fun p=>p.1.1) ⟨(1000000000,a0,a1,0),ho1⟩ ((List Scan)×Int) (fun⟨y1_1,y1_2⟩=>({sl:=[(1,.c (.r (.v (.int .i64 y1_2))))],tab:=[(0,some (.arr 6 (d_Scan y1_1)))]}:St)) 1 (fun y=>o1=y) ?_ ?_ ?_
 ·refine Wk.of [(0,some 0)] rfl rfl ?_ ?_
  ·cbv;all_goals exact⟨⟨_,rfl,rfl⟩,⟨_,rfl,rfl⟩,⟨_,rfl,rfl⟩,trivial⟩
  cbv;all_goals exact⟨⟨_,rfl,rfl⟩,trivial⟩
 ·rintro⟨⟨n1,w1,v1,v2⟩,h_1⟩ hq1;try dsimp only at h_1
  clear hq1;rcases n1 with _|n1
  ·rw[dM] at h_1;cases h_1
  rw[dM] at h_1;try rw[←hg] at h_1
  try rw[←ht] at h_1
  try dsimp only at h_1
  cbv
  cases hb1:(lt v2 (int (dlen (d_Scan w1))))
  ·rw[aa hb1] at h_1;cbv;refine⟨(w1,v1),Wk.of [(0,some 0)] rfl rfl ?_ ?_,(Option.some.inj h_1).symm⟩
   ·cbv;all_goals exact⟨⟨_,rfl,rfl⟩,trivial⟩
   cbv;all_goals exact⟨⟨_,rfl,rfl⟩,trivial⟩
  rw[ab hb1] at h_1;cbv;obtain⟨hc1,h_1⟩:=al h_1;refine AStep.mk hc1 ?_;cbv;obtain⟨x1,hx1,h_1⟩:=aE h_1;obtain⟨x1_Thing,x1_At,x1_Kind,x1_Place,⟨x1_Trip_Leg,x1_Trip_Day⟩⟩:=x1;try dsimp only at h_1
  refine AGet.mk _ (aG hg ht hx1) ?_;cbv;obtain⟨l1,hl1,h_1⟩:=ak h_1;try dsimp only at h_1
  refine ANew.mk (d_Scan l1) _ (by rw[←hl1];exact j7 hg ht _ _ (Scan.mk v1 x1_At x1_Kind x1_Place (Trip.mk x1_Trip_Leg x1_Trip_Day))) rfl ?_;have hnl1:(dlen (d_Scan w1))=(d_Scan l1).length:=(by rw[←hl1,iS ht];exact(ah hg ht _));cbv;obtain⟨hc2,h_1⟩:=al h_1;refine AStep.mk hc2 ?_;cbv;obtain⟨x2,hx2,h_1⟩:=aE h_1;obtain⟨x2_Thing,x2_At,x2_Kind,x2_Place,⟨x2_Trip_Leg,x2_Trip_Day⟩⟩:=x2;try dsimp only at h_1
  refine AGet.mk _ (aG hg ht hx2) ?_;cbv;obtain⟨l2,hl2,h_1⟩:=ak h_1;try dsimp only at h_1
  refine ANew.mk (d_Scan l2) _ (by rw[←hl2];exact j7 hg ht _ _ (Scan.mk x2_Thing (wrap .i64 (add v1 1)) x2_Kind x2_Place (Trip.mk x2_Trip_Leg x2_Trip_Day))) rfl ?_;have hnl2:(dlen (d_Scan w1))=(d_Scan l2).length:=(by rw[←hl2,iS ht];exact hnl1);cbv;obtain⟨hc3,h_1⟩:=al h_1;refine AStep.mk hc3 ?_;cbv;obtain⟨x3,hx3,h_1⟩:=aE h_1;obtain⟨x3_Thing,x3_At,x3_Kind,x3_Place,⟨x3_Trip_Leg,x3_Trip_Day⟩⟩:=x3;try dsimp only at h_1
  refine AGet.mk _ (aG hg ht hx3) ?_;cbv;obtain⟨l3,hl3,h_1⟩:=ak h_1;try dsimp only at h_1
  refine ANew.mk (d_Scan l3) _ (by rw[←hl3];exact j7 hg ht _ _ (Scan.mk x3_Thing x3_At (wrap .i64 (add (wrap .i64 (add v1 1)) 1)) x3_Place (Trip.mk x3_Trip_Leg x3_Trip_Day))) rfl ?_;have hnl3:(dlen (d_Scan w1))=(d_Scan l3).length:=(by rw[←hl3,iS ht];exact hnl2);cbv;obtain⟨x4,hx4,h_1⟩:=ac h_1;try dsimp only at h_1
  refine ACall.mk _ _ rfl (hF _ _ _ (g8 hg ht hx4)) (.inl rfl) (nb rfl) ?_;cbv;obtain⟨hc4,h_1⟩:=al h_1;refine AStep.mk hc4 ?_;cbv;obtain⟨x5,hx5,h_1⟩:=aE h_1;obtain⟨x5_Thing,x5_At,x5_Kind,x5_Place,⟨x5_Trip_Leg,x5_Trip_Day⟩⟩:=x5;try dsimp only at h_1
  refine AGet.mk _ (aG hg ht hx5) ?_;cbv;obtain⟨l4,hl4,h_1⟩:=ak h_1;try dsimp only at h_1
  refine ANew.mk (d_Scan l4) _ (by rw[←hl4];exact j7 hg ht _ _ (Scan.mk x5_Thing x5_At x5_Kind x4 (Trip.mk x5_Trip_Leg x5_Trip_Day))) rfl ?_;have hnl4:(dlen (d_Scan w1))=(d_Scan l4).length:=(by rw[←hl4,iS ht];exact hnl3);cbv;obtain⟨hc5,h_1⟩:=al h_1;refine AStep.mk hc5 ?_;cbv;obtain⟨x6,hx6,h_1⟩:=aE h_1;obtain⟨x6_Thing,x6_At,x6_Kind,x6_Place,⟨x6_Trip_Leg,x6_Trip_Day⟩⟩:=x6;try dsimp only at h_1
  refine AGet.mk _ (aG hg ht hx6) ?_;cbv;obtain⟨l5,hl5,h_1⟩:=ak h_1;try dsimp only at h_1
  refine ANew.mk (d_Scan l5) _ (by rw[←hl5];exact j7 hg ht _ _ (Scan.mk x6_Thing x6_At x6_Kind x6_Place (Trip.mk (wrap .i64 (add (wrap .i64 (add (wrap .i64 (add (wrap .i64 (add v1 1)) 1)) 1)) 1)) x6_Trip_Day))) rfl ?_;have hnl5:(dlen (d_Scan w1))=(d_Scan l5).length:=(by rw[←hl5,iS ht];exact hnl4);cbv;obtain⟨hc6,h_1⟩:=al h_1;refine AStep.mk hc6 ?_;cbv;obtain⟨x7,hx7,h_1⟩:=aE h_1;obtain⟨x7_Thing,x7_At,x7_Kind,x7_Place,⟨x7_Trip_Leg,x7_Trip_Day⟩⟩:=x7;try dsimp only at h_1
  refine AGet.mk _ (aG hg ht hx7) ?_;cbv;obtain⟨l6,hl6,h_1⟩:=ak h_1;try dsimp only at h_1
  refine ANew.mk (d_Scan l6) _ (by rw[←hl6];exact j7 hg ht _ _ (Scan.mk x7_Thing x7_At x7_Kind x7_Place (Trip.mk x7_Trip_Leg (wrap .i64 (add (wrap .i64 (add (wrap .i64 (add (wrap .i64 (add (wrap .i64 (add v1 1)) 1)) 1)) 1)) 1))))) rfl ?_;have hnl6:(dlen (d_Scan w1))=(d_Scan l6).length:=(by rw[←hl6,iS ht];exact hnl5);cbv;try rw[hg] at h_1
  try rw[ht] at h_1
  refine⟨⟨(n1,l6,(wrap .i64 (add (wrap .i64 (add (wrap .i64 (add (wrap .i64 (add (wrap .i64 (add (wrap .i64 (add v1 1)) 1)) 1)) 1)) 1)) 1)),(wrap .i64 (add v2 1))),h_1⟩,Wk.of [(0,some 0)] rfl rfl ?_ ?_,Nat.lt_succ_self _⟩
  ·cbv;all_goals try rw[show(dlen (d_Scan w1))=(dlen (d_Scan l6)) from(hnl6).trans (ah hg ht _).symm]
   all_goals exact⟨⟨_,rfl,rfl⟩,⟨_,rfl,rfl⟩,⟨_,rfl,rfl⟩,trivial⟩
  cbv;all_goals try rw[show(dlen (d_Scan w1))=(dlen (d_Scan l6)) from(hnl6).trans (ah hg ht _).symm]
  all_goals exact⟨⟨_,rfl,rfl⟩,trivial⟩
 rintro⟨y1_1,y1_2⟩ hy1;replace hy1:=hy1.symm;subst hy1;try dsimp only[lr,lrL,lrp,aR] at h
 cbv;obtain⟨hc7,h⟩:=al h;obtain rfl:=Option.some.inj h;exact ARetM.mk ⟨rfl,(dj ht (ah hg ht _) hc7)⟩ hX.symm hY.symm
def ir25:J:=js [jm 4 (ki 0)] [0,1] (.seq (js [jm 5 (ki 0)] [0,1,5] (.bl 0 (.seq (js [jm 6 5,jm 7 0,jq 8 (.len false 7),jb 9 .lss .i 6 8] [0,1,5,9] (.cond 9 .skip (.exit 0))) (.seq (.block 1 (.seq (js [jm 12 0,jm 13 5,ja 14 6 12 13,jf 15 0 14,jk 16 15,jm 17 1,jb 18 .neq .i 16 17] [0,1,5,18] (.cond 18 (js [jq 4 (.mv (.k (V.i (-1))))] [4] .ret) .skip)) (js [jm 19 1,jb 20 .add .i 19 (ki 1),jm 1 20] [0,1,5] (.seq (js [jm 21 0,jm 22 5,ja 23 6 21 22,jf 24 1 23,jk 25 24,jm 26 1,jb 27 .neq .i 25 26] [0,1,5,27] (.cond 27 (js [jq 4 (.mv (.k (V.i (-1))))] [4] .ret) .skip)) (js [jm 28 1,jb 29 .add .i 28 (ki 1),jm 1 29] [0,1,5] (.seq (js [jm 30 0,jm 31 5,ja 32 6 30 31,jf 33 2 32,jk 34 33,jm 35 1,jb 36 .neq .i 34 35] [0,1,5,36] (.cond 36 (js [jq 4 (.mv (.k (V.i (-1))))] [4] .ret) .skip)) (js [jm 37 1,jb 38 .add .i 37 (ki 1),jm 1 38] [0,1,5] (.seq (.seq (.reg (some [[],[],[0,1],[0,1,2],[0,1,2,3],[],[5],[0,1,2,3,4,5,6]]) [jm 39 0,jm 40 5,ja 41 6 39 40,jf 42 3 41,jk 43 42,jm 44 1,jc 45 73 [44],jb 46 .neq .s 43 45] [0,1,5,46]) (.cond 46 (js [jq 4 (.mv (.k (V.i (-1))))] [4] .ret) .skip)) (js [jm 47 1,jb 48 .add .i 47 (ki 1),jm 1 48] [0,1,5] (.seq (js [jm 49 0,jm 50 5,ja 51 6 49 50,jf 52 4 51,jf 53 0 52,jk 54 53,jm 55 1,jb 56 .neq .i 54 55] [0,1,5,56] (.cond 56 (js [jq 4 (.mv (.k (V.i (-1))))] [4] .ret) .skip)) (js [jm 57 1,jb 58 .add .i 57 (ki 1),jm 1 58] [0,1,5] (.seq (js [jm 59 0,jm 60 5,ja 61 6 59 60,jf 62 4 61,jf 63 1 62,jk 64 63,jm 65 1,jb 66 .neq .i 64 65] [0,1,5,66] (.cond 66 (js [jq 4 (.mv (.k (V.i (-1))))] [4] .ret) .skip)) (.reg none [jm 67 1,jb 68 .add .i 67 (ki 1),jm 1 68] [0,1,5]))))))))))))) (.reg none [jm 10 5,jb 11 .add .i 10 (ki 1),jm 5 11] [0,1,5]))))) (js [jm 69 1,jm 4 69] [4] .ret))
def rv25:List RV:=[.t 4]
def dG (g:G) (t:TE):List Scan→Int→Option (LR Int Int)
 |[],v1=>
  some (LR.out v1)
 |z1::ls1,v1=>
  br (g.eq z1.Thing v1)
  (
   br (g.eq z1.At (g.wrap .i64 (g.add v1 1)))
   (
    br (g.eq z1.Kind (g.wrap .i64 (g.add (g.wrap .i64 (g.add v1 1)) 1)))
    (
     cl (fu g t (g.wrap .i64 (g.add (g.wrap .i64 (g.add (g.wrap .i64 (g.add v1 1)) 1)) 1))) fun x1=>
     br (g.seq z1.Place x1)
     (
      br (g.eq z1.Trip.Leg (g.wrap .i64 (g.add (g.wrap .i64 (g.add (g.wrap .i64 (g.add (g.wrap .i64 (g.add v1 1)) 1)) 1)) 1)))
      (
       br (g.eq z1.Trip.Day (g.wrap .i64 (g.add (g.wrap .i64 (g.add (g.wrap .i64 (g.add (g.wrap .i64 (g.add (g.wrap .i64 (g.add v1 1)) 1)) 1)) 1)) 1)))
       (
        dG g t ls1 (g.wrap .i64 (g.add (g.wrap .i64 (g.add (g.wrap .i64 (g.add (g.wrap .i64 (g.add (g.wrap .i64 (g.add (g.wrap .i64 (g.add v1 1)) 1)) 1)) 1)) 1)) 1)))
       (
        some (LR.ret (-1))))
      (
       some (LR.ret (-1))))
     (
      some (LR.ret (-1))))
    (
     some (LR.ret (-1))))
   (
    some (LR.ret (-1))))
  (
   some (LR.ret (-1)))
def eh (g:G) (t:TE) (a0:List Scan) (a1:Int):Option Int:=
 cl (dG g t a0 a1) fun o1=>lr o1 fun y1=>
 some y1
theorem gz {g:G} {t:TE} {a0:List Scan} {a1:Int} {r:Int} (hg:g=G.real) (ht:t=TE.real) (h:eh g t a0 a1=some r):Fn Tryz.prog 25 [.c (.s 6 (t.r_Scan a0)),.c (.v (.int .i64 a1))] (.c (.r (.v (.int .i64 r)))):=by
 obtain⟨X,hX⟩:=aH (.c (.r (.v (.int .i64 r))):X);rw[←hX];refine aw (rvs:=rv25) (j:=ir25) Tryz.func25 rfl (by kernel_rfl) (nb rfl) (by kernel_rfl) af ?_;intro g2 F hg2 hF;obtain rfl:g2=g:=hg2.unique.trans hg.symm;clear hg2;obtain⟨wrap,lt,_,eq,_,_,_,_,_,_,_,_,_,add,_,_,_,seq,_,_,_,llen⟩:=g2;obtain⟨_,_,_,_,r_Scan⟩:=t
 unfold eh at h;try dsimp only at h
 cbv;obtain⟨o1,ho1,h⟩:=ac h;try dsimp only at h
 try rw[hg] at ho1
 try rw[ht] at ho1
 refine ABL.mk {p:Nat×Int×Int//p.1≤a0.length∧p.2.1=((p.1:Nat):Int)∧dG G.real TE.real (List.drop p.1 a0) p.2.2=some o1} (fun⟨⟨k1,v2,v1⟩,_⟩=>({sl:=[(0,.c (.r (.s 6 (r_Scan a0)))),(1,.c (.r (.v (.int .i64 v1)))),(5,.c (.r (.v (.int .i64 v2))))],tab:=[]}:St)) 0 (fun p=>a0.length-p.1.1) ⟨(0,0,a1),Nat.zero_le _,rfl,ho1⟩ (Int) (fun y1=>({sl:=[(1,.c (.r (.v (.int .i64 y1))))],tab:=[]}:St)) 0 (fun y=>o1=LR.out y) ?_ ?_ ?_
 ·refine Wk.of [] rfl rfl ?_ ?_
  ·cbv;all_goals exact⟨⟨_,rfl,rfl⟩,⟨_,rfl,rfl⟩,⟨_,rfl,rfl⟩,trivial⟩
  cbv;all_goals exact trivial
 ·rintro⟨⟨k1,v2,v1⟩,hk1,hi1,h_1⟩ hq1;have hm1:=(hq1.1 0 _ _ rfl);try dsimp only at hk1 hi1 h_1
  clear hq1;cbv
  by_cases hc1_:k1<a0.length
  ·have hb1:lt v2 (llen (r_Scan a0))=true:=gr hg ht hi1 hc1_;have hs1:=jZ hg ht hi1 hc1_ hm1;obtain⟨z1,hz1⟩:=aL hc1_;rw[aD hz1] at h_1;rw[dG] at h_1;obtain⟨z1_Thing,z1_At,z1_Kind,z1_Place,⟨z1_Trip_Leg,z1_Trip_Day⟩⟩:=z1;try rw[←hg] at h_1
   try rw[←ht] at h_1
   try dsimp only at h_1
   rw[hb1];cbv;refine AStep.mk (eO hi1) ?_;cbv;refine AGet.mk _ (bS hg ht hi1 hz1) ?_;cbv
   cases hb2:(eq z1_Thing v1)
   ·rw[aa hb2] at h_1;cbv;obtain rfl:=Option.some.inj h_1;try dsimp only[lr,lrL,lrp,aR] at h
    obtain rfl:=Option.some.inj h;exact ARet.mk trivial hX.symm
   rw[ab hb2] at h_1;cbv;refine AStep.mk (eO hi1) ?_;cbv;refine AGet.mk _ (bS hg ht hi1 hz1) ?_;cbv
   cases hb3:(eq z1_At (wrap .i64 (add v1 1)))
   ·rw[aa hb3] at h_1;cbv;obtain rfl:=Option.some.inj h_1;try dsimp only[lr,lrL,lrp,aR] at h
    obtain rfl:=Option.some.inj h;exact ARet.mk trivial hX.symm
   rw[ab hb3] at h_1;cbv;refine AStep.mk (eO hi1) ?_;cbv;refine AGet.mk _ (bS hg ht hi1 hz1) ?_;cbv
   cases hb4:(eq z1_Kind (wrap .i64 (add (wrap .i64 (add v1 1)) 1)))
   ·rw[aa hb4] at h_1;cbv;obtain rfl:=Option.some.inj h_1;try dsimp only[lr,lrL,lrp,aR] at h
    obtain rfl:=Option.some.inj h;exact ARet.mk trivial hX.symm
   rw[ab hb4] at h_1;cbv;refine AStep.mk (eO hi1) ?_;cbv;refine AGet.mk _ (bS hg ht hi1 hz1) ?_;cbv;obtain⟨x1,hx1,h_1⟩:=ac h_1;try dsimp only at h_1
   refine ACall.mk _ _ rfl (hF _ _ _ (g8 hg ht hx1)) (.inl rfl) (nb rfl) ?_;cbv
   cases hb5:(seq z1_Place x1)
   ·rw[aa hb5] at h_1;cbv;obtain rfl:=Option.some.inj h_1;try dsimp only[lr,lrL,lrp,aR] at h
    obtain rfl:=Option.some.inj h;exact ARet.mk trivial hX.symm
   rw[ab hb5] at h_1;cbv;refine AStep.mk (eO hi1) ?_;cbv;refine AGet.mk _ (bS hg ht hi1 hz1) ?_;cbv
   cases hb6:(eq z1_Trip_Leg (wrap .i64 (add (wrap .i64 (add (wrap .i64 (add (wrap .i64 (add v1 1)) 1)) 1)) 1)))
   ·rw[aa hb6] at h_1;cbv;obtain rfl:=Option.some.inj h_1;try dsimp only[lr,lrL,lrp,aR] at h
    obtain rfl:=Option.some.inj h;exact ARet.mk trivial hX.symm
   rw[ab hb6] at h_1;cbv;refine AStep.mk (eO hi1) ?_;cbv;refine AGet.mk _ (bS hg ht hi1 hz1) ?_;cbv
   cases hb7:(eq z1_Trip_Day (wrap .i64 (add (wrap .i64 (add (wrap .i64 (add (wrap .i64 (add (wrap .i64 (add v1 1)) 1)) 1)) 1)) 1)))
   ·rw[aa hb7] at h_1;cbv;obtain rfl:=Option.some.inj h_1;try dsimp only[lr,lrL,lrp,aR] at h
    obtain rfl:=Option.some.inj h;exact ARet.mk trivial hX.symm
   rw[ab hb7] at h_1;cbv;try rw[hg] at h_1
   try rw[ht] at h_1
   refine⟨⟨(k1+1,(wrap .i64 (add v2 1)),(wrap .i64 (add (wrap .i64 (add (wrap .i64 (add (wrap .i64 (add (wrap .i64 (add (wrap .i64 (add v1 1)) 1)) 1)) 1)) 1)) 1))),hc1_,hs1,h_1⟩,Wk.of [] rfl rfl ?_ ?_,a8 hc1_⟩
   ·cbv;all_goals exact⟨⟨_,rfl,rfl⟩,⟨_,rfl,rfl⟩,⟨_,rfl,rfl⟩,trivial⟩
   cbv;all_goals exact trivial
  have hb1:lt v2 (llen (r_Scan a0))=false:=fz hg ht hi1 hc1_;rw[List.drop_of_length_le (Nat.le_of_not_lt hc1_)] at h_1;rw[dG] at h_1;try rw[←hg] at h_1
  try rw[←ht] at h_1
  try dsimp only at h_1
  rw[hb1];cbv;refine⟨v1,Wk.of [] rfl rfl ?_ ?_,(Option.some.inj h_1).symm⟩
  ·cbv;all_goals exact⟨⟨_,rfl,rfl⟩,trivial⟩
  cbv;all_goals exact trivial
 rintro y1 hy1;replace hy1:=hy1.symm;subst hy1;try dsimp only[lr,lrL,lrp,aR] at h
 cbv;obtain rfl:=Option.some.inj h;exact ARet.mk trivial hX.symm
def ir32:J:=js [jm 4 (ki 0)] [0,1] (.seq (js [jm 5 (ki 0)] [0,1,5] (.bl 0 (.seq (js [jm 6 5,jm 7 0,jq 8 (.len false 7),jb 9 .lss .i 6 8] [0,1,5,9] (.cond 9 .skip (.exit 0))) (.seq (.block 1 (.seq (js [jm 12 0,jm 13 5,ja 14 1 12 13,jk 15 14,jm 16 1,jb 17 .neq .i 15 16] [0,1,5,17] (.cond 17 (js [jq 4 (.mv (.k (V.i (-1))))] [4] .ret) .skip)) (.reg none [jm 18 1,jb 19 .add .i 18 (ki 1),jm 1 19] [0,1,5]))) (.reg none [jm 10 5,jb 11 .add .i 10 (ki 1),jm 5 11] [0,1,5]))))) (js [jm 20 1,jm 4 20] [4] .ret))
def rv32:List RV:=[.t 4]
def eD (g:G) (t:TE):List Int→Int→LR Int Int
 |[],v1=>
  (LR.out v1)
 |z1::ls1,v1=>
  br (g.eq z1 v1)
  (
   eD g t ls1 (g.wrap .i64 (g.add v1 1)))
  (
   (LR.ret (-1)))
def j8 (g:G) (t:TE) (a0:List Int) (a1:Int):Int:=
 lP (eD g t a0 a1) fun o1=>lrp o1 fun y1=>
 y1
theorem qN {g:G} {t:TE} {a0:List Int} {a1:Int} {r:Int} (hg:g=G.real) (ht:t=TE.real) (h:j8 g t a0 a1=r):Fn Tryz.prog 32 [.c (.s 1 (t.r_I64 a0)),.c (.v (.int .i64 a1))] (.c (.r (.v (.int .i64 r)))):=by
 obtain⟨X,hX⟩:=aH (.c (.r (.v (.int .i64 r))):X);rw[←hX];refine aw (rvs:=rv32) (j:=ir32) Tryz.func32 rfl (by kernel_rfl) (nb rfl) (by kernel_rfl) af ?_;intro g2 F hg2 hF;obtain rfl:g2=g:=hg2.unique.trans hg.symm;clear hg2;obtain⟨wrap,lt,_,eq,_,_,_,_,_,_,_,_,_,add,_,_,_,_,_,_,_,llen⟩:=g2;obtain⟨_,_,r_I64⟩:=t
 unfold j8 at h;try dsimp only at h
 cbv;obtain⟨o1,ho1,h⟩:=ak h;try dsimp only at h
 try rw[hg] at ho1
 try rw[ht] at ho1
 refine ABL.mk {p:Nat×Int×Int//p.1≤a0.length∧p.2.1=((p.1:Nat):Int)∧eD G.real TE.real (List.drop p.1 a0) p.2.2=o1} (fun⟨⟨k1,v2,v1⟩,_⟩=>({sl:=[(0,.c (.r (.s 1 (r_I64 a0)))),(1,.c (.r (.v (.int .i64 v1)))),(5,.c (.r (.v (.int .i64 v2))))],tab:=[]}:St)) 0 (fun p=>a0.length-p.1.1) ⟨(0,0,a1),Nat.zero_le _,rfl,ho1⟩ (Int) (fun y1=>({sl:=[(1,.c (.r (.v (.int .i64 y1))))],tab:=[]}:St)) 0 (fun y=>o1=LR.out y) ?_ ?_ ?_
 ·refine Wk.of [] rfl rfl ?_ ?_
  ·cbv;all_goals exact⟨⟨_,rfl,rfl⟩,⟨_,rfl,rfl⟩,⟨_,rfl,rfl⟩,trivial⟩
  cbv;all_goals exact trivial
 ·rintro⟨⟨k1,v2,v1⟩,hk1,hi1,h_1⟩ hq1;have hm1:=(hq1.1 0 _ _ rfl);try dsimp only at hk1 hi1 h_1
  clear hq1;cbv
  by_cases hc1_:k1<a0.length
  ·have hb1:lt v2 (llen (r_I64 a0))=true:=eX hg ht hi1 hc1_;have hs1:=iY hg ht hi1 hc1_ hm1;obtain⟨z1,hz1⟩:=aL hc1_;rw[aD hz1] at h_1;rw[eD] at h_1;try rw[←hg] at h_1
   try rw[←ht] at h_1
   try dsimp only at h_1
   rw[hb1];cbv;refine AStep.mk (eO hi1) ?_;cbv;refine AGet.mk _ (gf hg ht hi1 hz1) ?_;cbv
   cases hb2:(eq z1 v1)
   ·rw[aa hb2] at h_1;cbv;subst h_1;try dsimp only[lr,lrL,lrp,aR] at h
    subst h;exact ARet.mk trivial hX.symm
   rw[ab hb2] at h_1;cbv;try rw[hg] at h_1
   try rw[ht] at h_1
   refine⟨⟨(k1+1,(wrap .i64 (add v2 1)),(wrap .i64 (add v1 1))),hc1_,hs1,h_1⟩,Wk.of [] rfl rfl ?_ ?_,a8 hc1_⟩
   ·cbv;all_goals exact⟨⟨_,rfl,rfl⟩,⟨_,rfl,rfl⟩,⟨_,rfl,rfl⟩,trivial⟩
   cbv;all_goals exact trivial
  have hb1:lt v2 (llen (r_I64 a0))=false:=eB hg ht hi1 hc1_;rw[List.drop_of_length_le (Nat.le_of_not_lt hc1_)] at h_1;rw[eD] at h_1;try rw[←hg] at h_1
  try rw[←ht] at h_1
  try dsimp only at h_1
  rw[hb1];cbv;refine⟨v1,Wk.of [] rfl rfl ?_ ?_,h_1.symm⟩
  ·cbv;all_goals exact⟨⟨_,rfl,rfl⟩,trivial⟩
  cbv;all_goals exact trivial
 rintro y1 hy1;replace hy1:=hy1.symm;subst hy1;try dsimp only[lr,lrL,lrp,aR] at h
 cbv;subst h;exact ARet.mk trivial hX.symm
def ir57:J:=js [jm 4 (ki 0)] [0,1] (.seq (js [jm 5 (ki 0)] [0,1,5] (.bl 0 (.seq (js [jm 6 5,jm 7 0,jq 8 (.len false 7),jb 9 .lss .i 6 8] [0,1,5,9] (.cond 9 .skip (.exit 0))) (.seq (.block 1 (js [jm 12 0,jm 13 5,jm 14 1,jc 15 73 [14],ja 16 1 12 13,jp (.st 1 16 15)] [0,1,5] (.reg none [jm 17 1,jb 18 .add .i 17 (ki 1),jm 1 18] [0,1,5]))) (.reg none [jm 10 5,jb 11 .add .i 10 (ki 1),jm 5 11] [0,1,5]))))) (js [jm 19 1,jm 4 19] [4] .ret))
def rv57:List RV:=[.t 4]
def cJ (g:G) (t:TE):Nat→List ByteArray→Int→Int→Option ((List ByteArray)×Int)
 |0,_,_,_=>none
 |n1+1,w1,v1,v2=>
  br (g.lt v2 (g.int (g.dlen (t.d_S w1))))
  (
   cl (fu g t v1) fun x1=>
   gd (((0:Int)≤v2∧v2<(((g.dlen (t.d_S w1)):Nat):Int)))<|
   gt w1 (g.nat v2) fun x2=>
   lP (List.set w1 (g.nat v2) x1) fun(l1:List ByteArray)=>
   cJ g t n1 l1 (g.wrap .i64 (g.add v1 1)) (g.wrap .i64 (g.add v2 1)))
  (
   some (w1,v1))
def gu (g:G) (t:TE) (a0:List ByteArray) (a1:Int):Option (Int×(List ByteArray)):=
 cl (cJ g t 1000000000 a0 a1 0) fun y1=>
 gd ((y1.1.length=a0.length))<|
 some ((y1.2,y1.1))
theorem nG {g:G} {t:TE} {a0:List ByteArray} {a1:Int} {r:Int×(List ByteArray)} (hg:g=G.real) (ht:t=TE.real) (h:gu g t a0 a1=some r):FnM Tryz.prog 57 (.m (.o 1 (t.d_S a0))) [.c (.v (.int .i64 a1))] (.c (.r (.v (.int .i64 r.1)))) (.m (.o 1 (t.d_S r.2))):=by
 obtain⟨X,hX⟩:=aH (.c (.r (.v (.int .i64 r.1))):X);obtain⟨Y,hY⟩:=aH (.m (.o 1 (t.d_S r.2)):AM);rw[←hX,←hY];refine pC (rvs:=rv57) (j:=ir57) Tryz.func57 rfl (by kernel_rfl) (nb rfl) (by kernel_rfl) af ?_;intro g2 F hg2 hF;obtain rfl:g2=g:=hg2.unique.trans hg.symm;clear hg2;obtain⟨wrap,lt,_,_,_,_,_,_,_,_,_,_,int,add,_,_,_,_,_,_,_,_,_,_,dlen⟩:=g2;obtain⟨_,_,_,_,_,_,_,d_S⟩:=t
 unfold gu at h;try dsimp only at h
 cbv;obtain⟨o1,ho1,h⟩:=ac h;try dsimp only at h
 try rw[hg] at ho1
 try rw[ht] at ho1
 refine ABL.mk {p:Nat×(List ByteArray)×Int×Int//cJ G.real TE.real p.1 p.2.1 p.2.2.1 p.2.2.2=some o1} (fun⟨⟨n1,w1,v1,v2⟩,_⟩=>({sl:=[(0,.c (.f 0 1 0 (dlen (d_S w1)))),(1,.c (.r (.v (.int .i64 v1)))),(5,.c (.r (.v (.int .i64 v2))))],tab:=[(0,some (.arr 1 (d_S w1)))]}:St)) 1 (fun p=>p.1.1) ⟨(1000000000,a0,a1,0),ho1⟩ ((List ByteArray)×Int) (fun⟨y1_1,y1_2⟩=>({sl:=[(1,.c (.r (.v (.int .i64 y1_2))))],tab:=[(0,some (.arr 1 (d_S y1_1)))]}:St)) 1 (fun y=>o1=y) ?_ ?_ ?_
 ·refine Wk.of [(0,some 0)] rfl rfl ?_ ?_
  ·cbv;all_goals exact⟨⟨_,rfl,rfl⟩,⟨_,rfl,rfl⟩,⟨_,rfl,rfl⟩,trivial⟩
  cbv;all_goals exact⟨⟨_,rfl,rfl⟩,trivial⟩
 ·rintro⟨⟨n1,w1,v1,v2⟩,h_1⟩ hq1;try dsimp only at h_1
  clear hq1;rcases n1 with _|n1
  ·rw[cJ] at h_1;cases h_1
  rw[cJ] at h_1;try rw[←hg] at h_1
  try rw[←ht] at h_1
  try dsimp only at h_1
  cbv
  cases hb1:(lt v2 (int (dlen (d_S w1))))
  ·rw[aa hb1] at h_1;cbv;refine⟨(w1,v1),Wk.of [(0,some 0)] rfl rfl ?_ ?_,(Option.some.inj h_1).symm⟩
   ·cbv;all_goals exact⟨⟨_,rfl,rfl⟩,trivial⟩
   cbv;all_goals exact⟨⟨_,rfl,rfl⟩,trivial⟩
  rw[ab hb1] at h_1;cbv;obtain⟨x1,hx1,h_1⟩:=ac h_1;try dsimp only at h_1
  refine ACall.mk _ _ rfl (hF _ _ _ (g8 hg ht hx1)) (.inl rfl) (nb rfl) ?_;cbv;obtain⟨hc1,h_1⟩:=al h_1;refine AStep.mk hc1 ?_;cbv;obtain⟨x2,hx2,h_1⟩:=aE h_1;try dsimp only at h_1
  refine AGet.mk _ (g9 hg ht hx2) ?_;cbv;obtain⟨l1,hl1,h_1⟩:=ak h_1;try dsimp only at h_1
  refine ANew.mk (d_S l1) _ (by rw[←hl1];exact G3 hg ht _ _ x1) rfl ?_;have hnl1:(dlen (d_S w1))=(d_S l1).length:=(by rw[←hl1,FB ht];exact(aq hg ht _));cbv;try rw[hg] at h_1
  try rw[ht] at h_1
  refine⟨⟨(n1,l1,(wrap .i64 (add v1 1)),(wrap .i64 (add v2 1))),h_1⟩,Wk.of [(0,some 0)] rfl rfl ?_ ?_,Nat.lt_succ_self _⟩
  ·cbv;all_goals try rw[show(dlen (d_S w1))=(dlen (d_S l1)) from(hnl1).trans (aq hg ht _).symm]
   all_goals exact⟨⟨_,rfl,rfl⟩,⟨_,rfl,rfl⟩,⟨_,rfl,rfl⟩,trivial⟩
  cbv;all_goals try rw[show(dlen (d_S w1))=(dlen (d_S l1)) from(hnl1).trans (aq hg ht _).symm]
  all_goals exact⟨⟨_,rfl,rfl⟩,trivial⟩
 rintro⟨y1_1,y1_2⟩ hy1;replace hy1:=hy1.symm;subst hy1;try dsimp only[lr,lrL,lrp,aR] at h
 cbv;obtain⟨hc2,h⟩:=al h;obtain rfl:=Option.some.inj h;exact ARetM.mk ⟨rfl,(lC ht (aq hg ht _) hc2)⟩ hX.symm hY.symm
def ir96:J:=js [jm 4 (ki 0)] [0,1] (.seq (js [jm 5 (ki 0)] [0,1,5] (.bl 0 (.seq (js [jm 6 5,jm 7 0,jq 8 (.len false 7),jb 9 .lss .i 6 8] [0,1,5,9] (.cond 9 .skip (.exit 0))) (.seq (.block 1 (js [jm 12 0,jm 13 5,jm 14 1,ja 15 2 12 13,jf 16 0 15,jp (.st 1 16 14)] [0,1,5] (js [jm 17 1,jb 18 .add .i 17 (ki 1),jm 1 18] [0,1,5] (js [jm 19 0,jm 20 5,jm 21 1,ja 22 2 19 20,jf 23 1 22,jp (.st 1 23 21)] [0,1,5] (.reg none [jm 24 1,jb 25 .add .i 24 (ki 1),jm 1 25] [0,1,5]))))) (.reg none [jm 10 5,jb 11 .add .i 10 (ki 1),jm 5 11] [0,1,5]))))) (js [jm 26 1,jm 4 26] [4] .ret))
def rv96:List RV:=[.t 4]
def dI (g:G) (t:TE):Nat→List Trip→Int→Int→Option ((List Trip)×Int)
 |0,_,_,_=>none
 |n1+1,w1,v1,v2=>
  br (g.lt v2 (g.int (g.dlen (t.d_Trip w1))))
  (
   gd (((0:Int)≤v2∧v2<(((g.dlen (t.d_Trip w1)):Nat):Int)))<|
   gt w1 (g.nat v2) fun x1=>
   lP (List.set w1 (g.nat v2) (Trip.mk v1 x1.Day)) fun(l1:List Trip)=>
   gd (((0:Int)≤v2∧v2<(((g.dlen (t.d_Trip w1)):Nat):Int)))<|
   gt l1 (g.nat v2) fun x2=>
   lP (List.set l1 (g.nat v2) (Trip.mk x2.Leg (g.wrap .i64 (g.add v1 1)))) fun(l2:List Trip)=>
   dI g t n1 l2 (g.wrap .i64 (g.add (g.wrap .i64 (g.add v1 1)) 1)) (g.wrap .i64 (g.add v2 1)))
  (
   some (w1,v1))
def kw (g:G) (t:TE) (a0:List Trip) (a1:Int):Option (Int×(List Trip)):=
 cl (dI g t 1000000000 a0 a1 0) fun y1=>
 gd ((y1.1.length=a0.length))<|
 some ((y1.2,y1.1))
theorem uE {g:G} {t:TE} {a0:List Trip} {a1:Int} {r:Int×(List Trip)} (hg:g=G.real) (ht:t=TE.real) (h:kw g t a0 a1=some r):FnM Tryz.prog 96 (.m (.o 2 (t.d_Trip a0))) [.c (.v (.int .i64 a1))] (.c (.r (.v (.int .i64 r.1)))) (.m (.o 2 (t.d_Trip r.2))):=by
 obtain⟨X,hX⟩:=aH (.c (.r (.v (.int .i64 r.1))):X);obtain⟨Y,hY⟩:=aH (.m (.o 2 (t.d_Trip r.2)):AM);rw[←hX,←hY];refine pC (rvs:=rv96) (j:=ir96) Tryz.func96 rfl (by kernel_rfl) (nb rfl) (by kernel_rfl) af ?_;intro g2 F hg2 hF;obtain rfl:g2=g:=hg2.unique.trans hg.symm;clear hg2;obtain⟨wrap,lt,_,_,_,_,_,_,_,_,_,_,int,add,_,_,_,_,_,_,_,_,_,_,dlen⟩:=g2;obtain⟨_,_,_,_,_,_,_,_,_,d_Trip⟩:=t
 unfold kw at h;try dsimp only at h
 cbv;obtain⟨o1,ho1,h⟩:=ac h;try dsimp only at h
 try rw[hg] at ho1
 try rw[ht] at ho1
 refine ABL.mk {p:Nat×(List Trip)×Int×Int//dI G.real TE.real p.1 p.2.1 p.2.2.1 p.2.2.2=some o1} (fun⟨⟨n1,w1,v1,v2⟩,_⟩=>({sl:=[(0,.c (.f 0 2 0 (dlen (d_Trip w1)))),(1,.c (.r (.v (.int .i64 v1)))),(5,.c (.r (.v (.int .i64 v2))))],tab:=[(0,some (.arr 2 (d_Trip w1)))]}:St)) 1 (fun p=>p.1.1) ⟨(1000000000,a0,a1,0),ho1⟩ ((List Trip)×Int) (fun⟨y1_1,y1_2⟩=>({sl:=[(1,.c (.r (.v (.int .i64 y1_2))))],tab:=[(0,some (.arr 2 (d_Trip y1_1)))]}:St)) 1 (fun y=>o1=y) ?_ ?_ ?_
 ·refine Wk.of [(0,some 0)] rfl rfl ?_ ?_
  ·cbv;all_goals exact⟨⟨_,rfl,rfl⟩,⟨_,rfl,rfl⟩,⟨_,rfl,rfl⟩,trivial⟩
  cbv;all_goals exact⟨⟨_,rfl,rfl⟩,trivial⟩
 ·rintro⟨⟨n1,w1,v1,v2⟩,h_1⟩ hq1;try dsimp only at h_1
  clear hq1;rcases n1 with _|n1
  ·rw[dI] at h_1;cases h_1
  rw[dI] at h_1;try rw[←hg] at h_1
  try rw[←ht] at h_1
  try dsimp only at h_1
  cbv
  cases hb1:(lt v2 (int (dlen (d_Trip w1))))
  ·rw[aa hb1] at h_1;cbv;refine⟨(w1,v1),Wk.of [(0,some 0)] rfl rfl ?_ ?_,(Option.some.inj h_1).symm⟩
   ·cbv;all_goals exact⟨⟨_,rfl,rfl⟩,trivial⟩
   cbv;all_goals exact⟨⟨_,rfl,rfl⟩,trivial⟩
  rw[ab hb1] at h_1;cbv;obtain⟨hc1,h_1⟩:=al h_1;refine AStep.mk hc1 ?_;cbv;obtain⟨x1,hx1,h_1⟩:=aE h_1;obtain⟨x1_Leg,x1_Day⟩:=x1;try dsimp only at h_1
  refine AGet.mk _ (uv hg ht hx1) ?_;cbv;obtain⟨l1,hl1,h_1⟩:=ak h_1;try dsimp only at h_1
  refine ANew.mk (d_Trip l1) _ (by rw[←hl1];exact uT hg ht _ _ (Trip.mk v1 x1_Day)) rfl ?_;have hnl1:(dlen (d_Trip w1))=(d_Trip l1).length:=(by rw[←hl1,uA ht];exact(aW hg ht _));cbv;obtain⟨hc2,h_1⟩:=al h_1;refine AStep.mk hc2 ?_;cbv;obtain⟨x2,hx2,h_1⟩:=aE h_1;obtain⟨x2_Leg,x2_Day⟩:=x2;try dsimp only at h_1
  refine AGet.mk _ (uv hg ht hx2) ?_;cbv;obtain⟨l2,hl2,h_1⟩:=ak h_1;try dsimp only at h_1
  refine ANew.mk (d_Trip l2) _ (by rw[←hl2];exact uT hg ht _ _ (Trip.mk x2_Leg (wrap .i64 (add v1 1)))) rfl ?_;have hnl2:(dlen (d_Trip w1))=(d_Trip l2).length:=(by rw[←hl2,uA ht];exact hnl1);cbv;try rw[hg] at h_1
  try rw[ht] at h_1
  refine⟨⟨(n1,l2,(wrap .i64 (add (wrap .i64 (add v1 1)) 1)),(wrap .i64 (add v2 1))),h_1⟩,Wk.of [(0,some 0)] rfl rfl ?_ ?_,Nat.lt_succ_self _⟩
  ·cbv;all_goals try rw[show(dlen (d_Trip w1))=(dlen (d_Trip l2)) from(hnl2).trans (aW hg ht _).symm]
   all_goals exact⟨⟨_,rfl,rfl⟩,⟨_,rfl,rfl⟩,⟨_,rfl,rfl⟩,trivial⟩
  cbv;all_goals try rw[show(dlen (d_Trip w1))=(dlen (d_Trip l2)) from(hnl2).trans (aW hg ht _).symm]
  all_goals exact⟨⟨_,rfl,rfl⟩,trivial⟩
 rintro⟨y1_1,y1_2⟩ hy1;replace hy1:=hy1.symm;subst hy1;try dsimp only[lr,lrL,lrp,aR] at h
 cbv;obtain⟨hc3,h⟩:=al h;obtain rfl:=Option.some.inj h;exact ARetM.mk ⟨rfl,(lm ht (aW hg ht _) hc3)⟩ hX.symm hY.symm
def ir50:J:=js [jq 2 (.box 0),jm 4 (ki 0)] [1,2] (js [jf 5 0 2,jk 6 5,jm 7 1,jq 8 (.callm 57 6 [7]),jm 1 8] [1,2] (js [jf 9 1 2,jk 10 9,jm 11 1,jq 12 (.callm 96 10 [11]),jm 1 12] [1] (js [jm 13 1,jm 4 13] [4] .ret)))
def rv50:List RV:=[.t 4]
def jx (g:G) (t:TE) (a0:Belief) (a1:Int):Option (Int×Belief):=
 cl (gu g t a0.Places a1) fun x1=>
 gd ((x1.2.length=a0.Places.length))<|
 cl (kw g t a0.Rides x1.1) fun x2=>
 gd ((x2.2.length=a0.Rides.length))<|
 some ((x2.1,(Belief.mk x1.2 x2.2)))
theorem uy {g:G} {t:TE} {a0:Belief} {a1:Int} {r:Int×Belief} (hg:g=G.real) (ht:t=TE.real) (h:jx g t a0 a1=some r):FnM Tryz.prog 50 (.g (Belief.ds t a0)) [.c (.v (.int .i64 a1))] (.c (.r (.v (.int .i64 r.1)))) (.g (Belief.ds t r.2)):=by
 obtain⟨X,hX⟩:=aH (.c (.r (.v (.int .i64 r.1))):X);obtain⟨Y,hY⟩:=aH (.g (Belief.ds t r.2):AM);rw[←hX,←hY];refine pC (rvs:=rv50) (j:=ir50) Tryz.func50 rfl (by kernel_rfl) (nb rfl) (by kernel_rfl) af ?_;intro g2 F hg2 hF;obtain rfl:g2=g:=hg2.unique.trans hg.symm;clear hg2;obtain⟨_⟩:=g2;obtain⟨_⟩:=t
 obtain⟨a0_Places,a0_Rides⟩:=a0;unfold jx at h;try dsimp only at h
 cbv;refine AStep.mk ⟨rfl,(aq hg ht _)⟩ ?_;cbv;obtain⟨x1,hx1,h⟩:=ac h;obtain⟨x1_1,x1_2⟩:=x1;try dsimp only at h
 refine ACallM.mk _ _ _ _ rfl rfl (hF _ _ _ (nG hg ht hx1)) rfl (nb rfl) (nb rfl) ?_;cbv;obtain⟨hc1,h⟩:=al h;refine AStep.mk ⟨rfl,(aW hg ht _)⟩ ?_;cbv;obtain⟨x2,hx2,h⟩:=ac h;obtain⟨x2_1,x2_2⟩:=x2;try dsimp only at h
 refine ACallM.mk _ _ _ _ rfl rfl (hF _ _ _ (uE hg ht hx2)) rfl (nb rfl) (nb rfl) ?_;cbv;obtain⟨hc2,h⟩:=al h;obtain rfl:=Option.some.inj h;exact ARetM.mk ⟨⟨rfl,(lC ht (aq hg ht _) hc1)⟩,⟨rfl,(lm ht (aW hg ht _) hc2)⟩⟩ hX.symm hY.symm
def ir58:J:=js [jm 4 (ki 0)] [0,1] (.seq (js [jm 5 (ki 0)] [0,1,5] (.bl 0 (.seq (js [jm 6 5,jm 7 0,jq 8 (.len false 7),jb 9 .lss .i 6 8] [0,1,5,9] (.cond 9 .skip (.exit 0))) (.seq (.block 1 (.seq (.seq (.reg (some [[],[],[0,1],[0,1,2],[],[4],[0,1,2,3,4,5]]) [jm 12 0,jm 13 5,ja 14 1 12 13,jk 15 14,jm 16 1,jc 17 73 [16],jb 18 .neq .s 15 17] [0,1,5,18]) (.cond 18 (js [jq 4 (.mv (.k (V.i (-1))))] [4] .ret) .skip)) (.reg none [jm 19 1,jb 20 .add .i 19 (ki 1),jm 1 20] [0,1,5]))) (.reg none [jm 10 5,jb 11 .add .i 10 (ki 1),jm 5 11] [0,1,5]))))) (js [jm 21 1,jm 4 21] [4] .ret))
def rv58:List RV:=[.t 4]
def cG (g:G) (t:TE):List ByteArray→Int→Option (LR Int Int)
 |[],v1=>
  some (LR.out v1)
 |z1::ls1,v1=>
  cl (fu g t v1) fun x1=>
  br (g.seq z1 x1)
  (
   cG g t ls1 (g.wrap .i64 (g.add v1 1)))
  (
   some (LR.ret (-1)))
def fv (g:G) (t:TE) (a0:List ByteArray) (a1:Int):Option Int:=
 cl (cG g t a0 a1) fun o1=>lr o1 fun y1=>
 some y1
theorem kI {g:G} {t:TE} {a0:List ByteArray} {a1:Int} {r:Int} (hg:g=G.real) (ht:t=TE.real) (h:fv g t a0 a1=some r):Fn Tryz.prog 58 [.c (.s 1 (t.r_S a0)),.c (.v (.int .i64 a1))] (.c (.r (.v (.int .i64 r)))):=by
 obtain⟨X,hX⟩:=aH (.c (.r (.v (.int .i64 r))):X);rw[←hX];refine aw (rvs:=rv58) (j:=ir58) Tryz.func58 rfl (by kernel_rfl) (nb rfl) (by kernel_rfl) af ?_;intro g2 F hg2 hF;obtain rfl:g2=g:=hg2.unique.trans hg.symm;clear hg2;obtain⟨wrap,lt,_,_,_,_,_,_,_,_,_,_,_,add,_,_,_,seq,_,_,_,llen⟩:=g2;obtain⟨_,_,_,_,_,_,r_S⟩:=t
 unfold fv at h;try dsimp only at h
 cbv;obtain⟨o1,ho1,h⟩:=ac h;try dsimp only at h
 try rw[hg] at ho1
 try rw[ht] at ho1
 refine ABL.mk {p:Nat×Int×Int//p.1≤a0.length∧p.2.1=((p.1:Nat):Int)∧cG G.real TE.real (List.drop p.1 a0) p.2.2=some o1} (fun⟨⟨k1,v2,v1⟩,_⟩=>({sl:=[(0,.c (.r (.s 1 (r_S a0)))),(1,.c (.r (.v (.int .i64 v1)))),(5,.c (.r (.v (.int .i64 v2))))],tab:=[]}:St)) 0 (fun p=>a0.length-p.1.1) ⟨(0,0,a1),Nat.zero_le _,rfl,ho1⟩ (Int) (fun y1=>({sl:=[(1,.c (.r (.v (.int .i64 y1))))],tab:=[]}:St)) 0 (fun y=>o1=LR.out y) ?_ ?_ ?_
 ·refine Wk.of [] rfl rfl ?_ ?_
  ·cbv;all_goals exact⟨⟨_,rfl,rfl⟩,⟨_,rfl,rfl⟩,⟨_,rfl,rfl⟩,trivial⟩
  cbv;all_goals exact trivial
 ·rintro⟨⟨k1,v2,v1⟩,hk1,hi1,h_1⟩ hq1;have hm1:=(hq1.1 0 _ _ rfl);try dsimp only at hk1 hi1 h_1
  clear hq1;cbv
  by_cases hc1_:k1<a0.length
  ·have hb1:lt v2 (llen (r_S a0))=true:=lK hg ht hi1 hc1_;have hs1:=qe hg ht hi1 hc1_ hm1;obtain⟨z1,hz1⟩:=aL hc1_;rw[aD hz1] at h_1;rw[cG] at h_1;try rw[←hg] at h_1
   try rw[←ht] at h_1
   try dsimp only at h_1
   rw[hb1];cbv;refine AStep.mk (eO hi1) ?_;cbv;refine AGet.mk _ (qh hg ht hi1 hz1) ?_;cbv;obtain⟨x1,hx1,h_1⟩:=ac h_1;try dsimp only at h_1
   refine ACall.mk _ _ rfl (hF _ _ _ (g8 hg ht hx1)) (.inl rfl) (nb rfl) ?_;cbv
   cases hb2:(seq z1 x1)
   ·rw[aa hb2] at h_1;cbv;obtain rfl:=Option.some.inj h_1;try dsimp only[lr,lrL,lrp,aR] at h
    obtain rfl:=Option.some.inj h;exact ARet.mk trivial hX.symm
   rw[ab hb2] at h_1;cbv;try rw[hg] at h_1
   try rw[ht] at h_1
   refine⟨⟨(k1+1,(wrap .i64 (add v2 1)),(wrap .i64 (add v1 1))),hc1_,hs1,h_1⟩,Wk.of [] rfl rfl ?_ ?_,a8 hc1_⟩
   ·cbv;all_goals exact⟨⟨_,rfl,rfl⟩,⟨_,rfl,rfl⟩,⟨_,rfl,rfl⟩,trivial⟩
   cbv;all_goals exact trivial
  have hb1:lt v2 (llen (r_S a0))=false:=kG hg ht hi1 hc1_;rw[List.drop_of_length_le (Nat.le_of_not_lt hc1_)] at h_1;rw[cG] at h_1;try rw[←hg] at h_1
  try rw[←ht] at h_1
  try dsimp only at h_1
  rw[hb1];cbv;refine⟨v1,Wk.of [] rfl rfl ?_ ?_,(Option.some.inj h_1).symm⟩
  ·cbv;all_goals exact⟨⟨_,rfl,rfl⟩,trivial⟩
  cbv;all_goals exact trivial
 rintro y1 hy1;replace hy1:=hy1.symm;subst hy1;try dsimp only[lr,lrL,lrp,aR] at h
 cbv;obtain rfl:=Option.some.inj h;exact ARet.mk trivial hX.symm
def ir97:J:=js [jm 4 (ki 0)] [0,1] (.seq (js [jm 5 (ki 0)] [0,1,5] (.bl 0 (.seq (js [jm 6 5,jm 7 0,jq 8 (.len false 7),jb 9 .lss .i 6 8] [0,1,5,9] (.cond 9 .skip (.exit 0))) (.seq (.block 1 (.seq (js [jm 12 0,jm 13 5,ja 14 2 12 13,jf 15 0 14,jk 16 15,jm 17 1,jb 18 .neq .i 16 17] [0,1,5,18] (.cond 18 (js [jq 4 (.mv (.k (V.i (-1))))] [4] .ret) .skip)) (js [jm 19 1,jb 20 .add .i 19 (ki 1),jm 1 20] [0,1,5] (.seq (js [jm 21 0,jm 22 5,ja 23 2 21 22,jf 24 1 23,jk 25 24,jm 26 1,jb 27 .neq .i 25 26] [0,1,5,27] (.cond 27 (js [jq 4 (.mv (.k (V.i (-1))))] [4] .ret) .skip)) (.reg none [jm 28 1,jb 29 .add .i 28 (ki 1),jm 1 29] [0,1,5]))))) (.reg none [jm 10 5,jb 11 .add .i 10 (ki 1),jm 5 11] [0,1,5]))))) (js [jm 30 1,jm 4 30] [4] .ret))
def rv97:List RV:=[.t 4]
def dE (g:G) (t:TE):List Trip→Int→LR Int Int
 |[],v1=>
  (LR.out v1)
 |z1::ls1,v1=>
  br (g.eq z1.Leg v1)
  (
   br (g.eq z1.Day (g.wrap .i64 (g.add v1 1)))
   (
    dE g t ls1 (g.wrap .i64 (g.add (g.wrap .i64 (g.add v1 1)) 1)))
   (
    (LR.ret (-1))))
  (
   (LR.ret (-1)))
def kE (g:G) (t:TE) (a0:List Trip) (a1:Int):Int:=
 lP (dE g t a0 a1) fun o1=>lrp o1 fun y1=>
 y1
theorem uK {g:G} {t:TE} {a0:List Trip} {a1:Int} {r:Int} (hg:g=G.real) (ht:t=TE.real) (h:kE g t a0 a1=r):Fn Tryz.prog 97 [.c (.s 2 (t.r_Trip a0)),.c (.v (.int .i64 a1))] (.c (.r (.v (.int .i64 r)))):=by
 obtain⟨X,hX⟩:=aH (.c (.r (.v (.int .i64 r))):X);rw[←hX];refine aw (rvs:=rv97) (j:=ir97) Tryz.func97 rfl (by kernel_rfl) (nb rfl) (by kernel_rfl) af ?_;intro g2 F hg2 hF;obtain rfl:g2=g:=hg2.unique.trans hg.symm;clear hg2;obtain⟨wrap,lt,_,eq,_,_,_,_,_,_,_,_,_,add,_,_,_,_,_,_,_,llen⟩:=g2;obtain⟨_,_,_,_,_,_,_,_,r_Trip⟩:=t
 unfold kE at h;try dsimp only at h
 cbv;obtain⟨o1,ho1,h⟩:=ak h;try dsimp only at h
 try rw[hg] at ho1
 try rw[ht] at ho1
 refine ABL.mk {p:Nat×Int×Int//p.1≤a0.length∧p.2.1=((p.1:Nat):Int)∧dE G.real TE.real (List.drop p.1 a0) p.2.2=o1} (fun⟨⟨k1,v2,v1⟩,_⟩=>({sl:=[(0,.c (.r (.s 2 (r_Trip a0)))),(1,.c (.r (.v (.int .i64 v1)))),(5,.c (.r (.v (.int .i64 v2))))],tab:=[]}:St)) 0 (fun p=>a0.length-p.1.1) ⟨(0,0,a1),Nat.zero_le _,rfl,ho1⟩ (Int) (fun y1=>({sl:=[(1,.c (.r (.v (.int .i64 y1))))],tab:=[]}:St)) 0 (fun y=>o1=LR.out y) ?_ ?_ ?_
 ·refine Wk.of [] rfl rfl ?_ ?_
  ·cbv;all_goals exact⟨⟨_,rfl,rfl⟩,⟨_,rfl,rfl⟩,⟨_,rfl,rfl⟩,trivial⟩
  cbv;all_goals exact trivial
 ·rintro⟨⟨k1,v2,v1⟩,hk1,hi1,h_1⟩ hq1;have hm1:=(hq1.1 0 _ _ rfl);try dsimp only at hk1 hi1 h_1
  clear hq1;cbv
  by_cases hc1_:k1<a0.length
  ·have hb1:lt v2 (llen (r_Trip a0))=true:=pd hg ht hi1 hc1_;have hs1:=tX hg ht hi1 hc1_ hm1;obtain⟨z1,hz1⟩:=aL hc1_;rw[aD hz1] at h_1;rw[dE] at h_1;obtain⟨z1_Leg,z1_Day⟩:=z1;try rw[←hg] at h_1
   try rw[←ht] at h_1
   try dsimp only at h_1
   rw[hb1];cbv;refine AStep.mk (eO hi1) ?_;cbv;refine AGet.mk _ (nS hg ht hi1 hz1) ?_;cbv
   cases hb2:(eq z1_Leg v1)
   ·rw[aa hb2] at h_1;cbv;subst h_1;try dsimp only[lr,lrL,lrp,aR] at h
    subst h;exact ARet.mk trivial hX.symm
   rw[ab hb2] at h_1;cbv;refine AStep.mk (eO hi1) ?_;cbv;refine AGet.mk _ (nS hg ht hi1 hz1) ?_;cbv
   cases hb3:(eq z1_Day (wrap .i64 (add v1 1)))
   ·rw[aa hb3] at h_1;cbv;subst h_1;try dsimp only[lr,lrL,lrp,aR] at h
    subst h;exact ARet.mk trivial hX.symm
   rw[ab hb3] at h_1;cbv;try rw[hg] at h_1
   try rw[ht] at h_1
   refine⟨⟨(k1+1,(wrap .i64 (add v2 1)),(wrap .i64 (add (wrap .i64 (add v1 1)) 1))),hc1_,hs1,h_1⟩,Wk.of [] rfl rfl ?_ ?_,a8 hc1_⟩
   ·cbv;all_goals exact⟨⟨_,rfl,rfl⟩,⟨_,rfl,rfl⟩,⟨_,rfl,rfl⟩,trivial⟩
   cbv;all_goals exact trivial
  have hb1:lt v2 (llen (r_Trip a0))=false:=nT hg ht hi1 hc1_;rw[List.drop_of_length_le (Nat.le_of_not_lt hc1_)] at h_1;rw[dE] at h_1;try rw[←hg] at h_1
  try rw[←ht] at h_1
  try dsimp only at h_1
  rw[hb1];cbv;refine⟨v1,Wk.of [] rfl rfl ?_ ?_,h_1.symm⟩
  ·cbv;all_goals exact⟨⟨_,rfl,rfl⟩,trivial⟩
  cbv;all_goals exact trivial
 rintro y1 hy1;replace hy1:=hy1.symm;subst hy1;try dsimp only[lr,lrL,lrp,aR] at h
 cbv;subst h;exact ARet.mk trivial hX.symm
def ir51:J:=js [jq 2 (.box 0),jm 4 (ki 0)] [1,2] (js [jf 5 0 2,jk 6 5,jm 7 1,jc 8 58 [6,7],jm 1 8] [1,2] (.seq (js [jm 9 1,jb 10 .lss .i 9 (ki 0)] [1,2,10] (.cond 10 (js [jq 4 (.mv (.k (V.i (-1))))] [4] .ret) .skip)) (js [jf 11 1 2,jk 12 11,jm 13 1,jc 14 97 [12,13],jm 1 14] [1] (.seq (js [jm 15 1,jb 16 .lss .i 15 (ki 0)] [1,16] (.cond 16 (js [jq 4 (.mv (.k (V.i (-1))))] [4] .ret) .skip)) (js [jm 17 1,jm 4 17] [4] .ret)))))
def rv51:List RV:=[.t 4]
def ig (g:G) (t:TE) (a0:Belief) (a1:Int):Option Int:=
 cl (fv g t a0.Places a1) fun x1=>
 br (g.lt x1 0)
 (
  some (-1))
 (
  lP (kE g t a0.Rides x1) fun x2=>
  br (g.lt x2 0)
  (
   some (-1))
  (
   some x2))
theorem nZ {g:G} {t:TE} {a0:Belief} {a1:Int} {r:Int} (hg:g=G.real) (ht:t=TE.real) (h:ig g t a0 a1=some r):Fn Tryz.prog 51 [.g (Belief.rs t a0),.c (.v (.int .i64 a1))] (.c (.r (.v (.int .i64 r)))):=by
 obtain⟨X,hX⟩:=aH (.c (.r (.v (.int .i64 r))):X);rw[←hX];refine aw (rvs:=rv51) (j:=ir51) Tryz.func51 rfl (by kernel_rfl) (nb rfl) (by kernel_rfl) af ?_;intro g2 F hg2 hF;obtain rfl:g2=g:=hg2.unique.trans hg.symm;clear hg2;obtain⟨_,lt⟩:=g2;obtain⟨_⟩:=t
 obtain⟨a0_Places,a0_Rides⟩:=a0;unfold ig at h;try dsimp only at h
 cbv;obtain⟨x1,hx1,h⟩:=ac h;try dsimp only at h
 refine ACall.mk _ _ rfl (hF _ _ _ (kI hg ht hx1)) (.inl rfl) (nb rfl) ?_;cbv
 cases hb1:(lt x1 0)
 rotate_left
 ·rw[ab hb1] at h;cbv;obtain rfl:=Option.some.inj h;exact ARet.mk trivial hX.symm
 rw[aa hb1] at h;cbv;obtain⟨x2,hx2,h⟩:=ak h;try dsimp only at h
 refine ACall.mk _ _ rfl (hF _ _ _ (uK hg ht hx2)) (.inl rfl) (nb rfl) ?_;cbv
 cases hb2:(lt x2 0)
 rotate_left
 ·rw[ab hb2] at h;cbv;obtain rfl:=Option.some.inj h;exact ARet.mk trivial hX.symm
 rw[aa hb2] at h;cbv;obtain rfl:=Option.some.inj h;exact ARet.mk trivial hX.symm
end Go.Vs
