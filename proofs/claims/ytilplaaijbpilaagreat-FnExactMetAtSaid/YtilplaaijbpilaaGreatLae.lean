/- Part of the proofs of this seat's laws: Lae. No condition. -/
import Derived.Test.YtilplaaijbpilaaGreatTy
import Derived.Test.YtilplaaijbpilaaGreatTIRall
import Derived.Test.YtilplaaijbpilaaGreatLaa
import Derived.Test.YtilplaaijbpilaaGreatLad
import Derived.Test.YtilplaaijbpilaaGreatLab
import Derived.Test.YtilplaaijbpilaaGreatLac
set_option linter.unusedVariables false
set_option linter.unusedSimpArgs false
set_option linter.unusedSectionVars false
namespace Go.Vs
set_option maxRecDepth 100000
def ir56:J:=js [jm 4 kf] [0,1] (.seq (js [jm 6 0,jq 7 (.len false 6),jm 8 1,jq 9 (.len false 8),jb 10 .neq .i 7 9] [0,1,10] (.cond 10 (js [jm 4 kf] [4] .ret) .skip)) (.seq (js [jm 5 (ki 0)] [0,1,5] (.bl 0 (.seq (js [jm 11 5,jm 12 0,jq 13 (.len false 12),jb 14 .lss .i 11 13] [0,1,5,14] (.cond 14 .skip (.exit 0))) (.seq (.block 1 (.seq (.reg (some [[],[],[0,1],[0,1,2],[],[],[4,5],[4,5,6],[0,1,2,3,4,5,6,7]]) [jm 17 0,jm 18 5,ja 19 1 17 18,jk 20 19,jm 21 1,jm 22 5,ja 23 1 21 22,jk 24 23,jb 25 .neq .s 20 24] [0,1,5,25]) (.cond 25 (js [jm 4 kf] [4] .ret) .skip))) (.reg none [jm 15 5,jb 16 .add .i 15 (ki 1),jm 5 16] [0,1,5]))))) (js [jm 4 kt] [4] .ret)))
def rv56:List RV:=[.t 4]
open Go.Proofs Go.IntWalk
set_option linter.unusedVariables false
set_option maxHeartbeats 4000000
def c6 (g:G) (t:TE) (a1:List ByteArray):List ByteArray→Int→Option (LR Bool Unit)
 |[],v1=>
  some (LR.out ())
 |z1::ls1,v1=>
  gt a1 (g.nat v1) fun x1=>
  br (g.seq z1 x1)
  (
   c6 g t a1 ls1 (g.wrap .i64 (g.add v1 1)))
  (
   some (LR.ret false))
def eP (g:G) (t:TE) (a0:List ByteArray) (a1:List ByteArray):Option Bool:=
 br (g.eq (g.llen (t.r_S a0)) (g.llen (t.r_S a1)))
 (
  cl (c6 g t a1 a0 0) fun o1=>lr o1 fun y1=>
  some true)
 (
  some false)
theorem iv {g:G} {t:TE} {a0:List ByteArray} {a1:List ByteArray} {r:Bool} (hg:g=G.real) (ht:t=TE.real) (h:eP g t a0 a1=some r):Fn Tryz.prog 56 [.c (.s 1 (t.r_S a0)),.c (.s 1 (t.r_S a1))] (.c (.r (.v (.bool r)))):=by
 obtain⟨X,hX⟩:=aE (.c (.r (.v (.bool r))):X);rw[←hX];refine au (rvs:=rv56) (j:=ir56) Tryz.func56 rfl (by kernel_rfl) (nb rfl) (by kernel_rfl) ae ?_;intro g2 F hg2 hF;obtain rfl:g2=g:=hg2.unique.trans hg.symm;clear hg2;obtain⟨wrap,lt,_,eq,_,_,_,_,_,_,_,_,_,add,_,_,_,seq,_,_,_,llen⟩:=g2;obtain⟨_,_,_,_,_,_,r_S⟩:=t
 unfold eP at h;try dsimp only at h
 cbv
 cases hb1:(eq (llen (r_S a0)) (llen (r_S a1)))
 ·rw[aa hb1] at h;cbv;obtain rfl:=Option.some.inj h;exact ARet.mk trivial hX.symm
 rw[ab hb1] at h;cbv;obtain⟨o1,ho1,h⟩:=ac h;try dsimp only at h
 try rw[hg] at ho1
 try rw[ht] at ho1
 refine ABL.mk {p:Nat×Int//p.1≤a0.length∧p.2=((p.1:Nat):Int)∧c6 G.real TE.real a1 (List.drop p.1 a0) p.2=some o1} (fun⟨⟨k1,v1⟩,_⟩=>({sl:=[(0,.c (.r (.s 1 (r_S a0)))),(1,.c (.r (.s 1 (r_S a1)))),(5,.c (.r (.v (.int .i64 v1))))],tab:=[]}:St)) 0 (fun p=>a0.length-p.1.1) ⟨(0,0),Nat.zero_le _,rfl,ho1⟩ (Unit) (fun _=>({sl:=[],tab:=[]}:St)) 0 (fun y=>o1=LR.out y) ?_ ?_ ?_
 ·refine Wk.of [] rfl rfl ?_ ?_
  ·cbv;all_goals exact⟨⟨_,rfl,rfl⟩,⟨_,rfl,rfl⟩,⟨_,rfl,rfl⟩,trivial⟩
  cbv;all_goals exact trivial
 ·rintro⟨⟨k1,v1⟩,hk1,hi1,h_1⟩ hq1;have hm1:=(hq1.1 0 _ _ rfl);try dsimp only at hk1 hi1 h_1
  clear hq1;cbv
  by_cases hc1_:k1<a0.length
  ·have hb2:lt v1 (llen (r_S a0))=true:=jS hg ht hi1 hc1_;have hs1:=oO hg ht hi1 hc1_ hm1;obtain⟨z1,hz1⟩:=aF hc1_;rw[aw hz1] at h_1;rw[c6] at h_1;try rw[←hg] at h_1
   try rw[←ht] at h_1
   try dsimp only at h_1
   rw[hb2];cbv;refine AStep.mk (e7 hi1) ?_;cbv;refine AGet.mk _ (oP hg ht hi1 hz1) ?_;cbv;refine AStep.mk (e7 hi1) ?_;cbv;obtain⟨x1,hx1,h_1⟩:=aB h_1;try dsimp only at h_1
   refine AGet.mk _ (zF hg ht hx1) ?_;cbv
   cases hb3:(seq z1 x1)
   ·rw[aa hb3] at h_1;cbv;obtain rfl:=Option.some.inj h_1;try dsimp only[lr,lrL,lrp,aP] at h
    obtain rfl:=Option.some.inj h;exact ARet.mk trivial hX.symm
   rw[ab hb3] at h_1;cbv;try rw[hg] at h_1
   try rw[ht] at h_1
   refine⟨⟨(k1+1,(wrap .i64 (add v1 1))),hc1_,hs1,h_1⟩,Wk.of [] rfl rfl ?_ ?_,aO hc1_⟩
   ·cbv;all_goals exact⟨⟨_,rfl,rfl⟩,⟨_,rfl,rfl⟩,⟨_,rfl,rfl⟩,trivial⟩
   cbv;all_goals exact trivial
  have hb2:lt v1 (llen (r_S a0))=false:=iH hg ht hi1 hc1_;rw[List.drop_of_length_le (Nat.le_of_not_lt hc1_)] at h_1;rw[c6] at h_1;try rw[←hg] at h_1
  try rw[←ht] at h_1
  try dsimp only at h_1
  rw[hb2];cbv;refine⟨(),Wk.of [] rfl rfl ?_ ?_,(Option.some.inj h_1).symm⟩
  ·cbv;all_goals exact trivial
  cbv;all_goals exact trivial
 rintro _ hy1;replace hy1:=hy1.symm;subst hy1;try dsimp only[lr,lrL,lrp,aP] at h
 cbv;obtain rfl:=Option.some.inj h;exact ARet.mk trivial hX.symm
def ir95:J:=js [jm 4 kf] [0,1] (.seq (js [jm 6 0,jq 7 (.len false 6),jm 8 1,jq 9 (.len false 8),jb 10 .neq .i 7 9] [0,1,10] (.cond 10 (js [jm 4 kf] [4] .ret) .skip)) (.seq (js [jm 5 (ki 0)] [0,1,5] (.bl 0 (.seq (js [jm 11 5,jm 12 0,jq 13 (.len false 12),jb 14 .lss .i 11 13] [0,1,5,14] (.cond 14 .skip (.exit 0))) (.seq (.block 1 (.seq (.reg (some [[],[],[0,1],[0,1,2],[],[],[4,5],[4,5,6],[0,1,2,3,4,5,6,7],[0,1,2,3,4,5,6,7,8]]) [jm 17 0,jm 18 5,ja 19 2 17 18,jl 20 2 19,jm 21 1,jm 22 5,ja 23 2 21 22,jl 24 2 23,jc 25 76 [20,24],jq 26 (.not 25)] [0,1,5,26]) (.cond 26 (js [jm 4 kf] [4] .ret) .skip))) (.reg none [jm 15 5,jb 16 .add .i 15 (ki 1),jm 5 16] [0,1,5]))))) (js [jm 4 kt] [4] .ret)))
def rv95:List RV:=[.t 4]
def dV (g:G) (t:TE) (a1:List Trip):List Trip→Int→Option (LR Bool Unit)
 |[],v1=>
  some (LR.out ())
 |z1::ls1,v1=>
  gt a1 (g.nat v1) fun x1=>
  lP (kD g t z1 x1) fun x2=>
  br x2
  (
   dV g t a1 ls1 (g.wrap .i64 (g.add v1 1)))
  (
   some (LR.ret false))
def kO (g:G) (t:TE) (a0:List Trip) (a1:List Trip):Option Bool:=
 br (g.eq (g.llen (t.r_Trip a0)) (g.llen (t.r_Trip a1)))
 (
  cl (dV g t a1 a0 0) fun o1=>lr o1 fun y1=>
  some true)
 (
  some false)
theorem vE {g:G} {t:TE} {a0:List Trip} {a1:List Trip} {r:Bool} (hg:g=G.real) (ht:t=TE.real) (h:kO g t a0 a1=some r):Fn Tryz.prog 95 [.c (.s 2 (t.r_Trip a0)),.c (.s 2 (t.r_Trip a1))] (.c (.r (.v (.bool r)))):=by
 obtain⟨X,hX⟩:=aE (.c (.r (.v (.bool r))):X);rw[←hX];refine au (rvs:=rv95) (j:=ir95) Tryz.func95 rfl (by kernel_rfl) (nb rfl) (by kernel_rfl) ae ?_;intro g2 F hg2 hF;obtain rfl:g2=g:=hg2.unique.trans hg.symm;clear hg2;obtain⟨wrap,lt,_,eq,_,_,_,_,_,_,_,_,_,add,_,_,_,_,_,_,_,llen⟩:=g2;obtain⟨_,_,_,_,_,_,_,_,r_Trip⟩:=t
 unfold kO at h;try dsimp only at h
 cbv
 cases hb1:(eq (llen (r_Trip a0)) (llen (r_Trip a1)))
 ·rw[aa hb1] at h;cbv;obtain rfl:=Option.some.inj h;exact ARet.mk trivial hX.symm
 rw[ab hb1] at h;cbv;obtain⟨o1,ho1,h⟩:=ac h;try dsimp only at h
 try rw[hg] at ho1
 try rw[ht] at ho1
 refine ABL.mk {p:Nat×Int//p.1≤a0.length∧p.2=((p.1:Nat):Int)∧dV G.real TE.real a1 (List.drop p.1 a0) p.2=some o1} (fun⟨⟨k1,v1⟩,_⟩=>({sl:=[(0,.c (.r (.s 2 (r_Trip a0)))),(1,.c (.r (.s 2 (r_Trip a1)))),(5,.c (.r (.v (.int .i64 v1))))],tab:=[]}:St)) 0 (fun p=>a0.length-p.1.1) ⟨(0,0),Nat.zero_le _,rfl,ho1⟩ (Unit) (fun _=>({sl:=[],tab:=[]}:St)) 0 (fun y=>o1=LR.out y) ?_ ?_ ?_
 ·refine Wk.of [] rfl rfl ?_ ?_
  ·cbv;all_goals exact⟨⟨_,rfl,rfl⟩,⟨_,rfl,rfl⟩,⟨_,rfl,rfl⟩,trivial⟩
  cbv;all_goals exact trivial
 ·rintro⟨⟨k1,v1⟩,hk1,hi1,h_1⟩ hq1;have hm1:=(hq1.1 0 _ _ rfl);try dsimp only at hk1 hi1 h_1
  clear hq1;cbv
  by_cases hc1_:k1<a0.length
  ·have hb2:lt v1 (llen (r_Trip a0))=true:=nl hg ht hi1 hc1_;have hs1:=sc hg ht hi1 hc1_ hm1;obtain⟨z1,hz1⟩:=aF hc1_;rw[aw hz1] at h_1;rw[dV] at h_1;obtain⟨z1_Leg,z1_Day⟩:=z1;try rw[←hg] at h_1
   try rw[←ht] at h_1
   try dsimp only at h_1
   rw[hb2];cbv;refine AStep.mk (e7 hi1) ?_;cbv;refine AGet.mk _ (ml hg ht hi1 hz1) ?_;cbv;refine AStep.mk (e7 hi1) ?_;cbv;obtain⟨x1,hx1,h_1⟩:=aB h_1;obtain⟨x1_Leg,x1_Day⟩:=x1;try dsimp only at h_1
   refine AGet.mk _ (sI hg ht hx1) ?_;cbv;obtain⟨x2,hx2,h_1⟩:=ak h_1;try dsimp only at h_1
   refine ACall.mk _ _ rfl (hF _ _ _ (sS hg ht hx2)) (.inl rfl) (nb rfl) ?_;cbv
   cases hb3:x2
   ·rw[aa hb3] at h_1;cbv;obtain rfl:=Option.some.inj h_1;try dsimp only[lr,lrL,lrp,aP] at h
    obtain rfl:=Option.some.inj h;exact ARet.mk trivial hX.symm
   rw[ab hb3] at h_1;cbv;try rw[hg] at h_1
   try rw[ht] at h_1
   refine⟨⟨(k1+1,(wrap .i64 (add v1 1))),hc1_,hs1,h_1⟩,Wk.of [] rfl rfl ?_ ?_,aO hc1_⟩
   ·cbv;all_goals exact⟨⟨_,rfl,rfl⟩,⟨_,rfl,rfl⟩,⟨_,rfl,rfl⟩,trivial⟩
   cbv;all_goals exact trivial
  have hb2:lt v1 (llen (r_Trip a0))=false:=mb hg ht hi1 hc1_;rw[List.drop_of_length_le (Nat.le_of_not_lt hc1_)] at h_1;rw[dV] at h_1;try rw[←hg] at h_1
  try rw[←ht] at h_1
  try dsimp only at h_1
  rw[hb2];cbv;refine⟨(),Wk.of [] rfl rfl ?_ ?_,(Option.some.inj h_1).symm⟩
  ·cbv;all_goals exact trivial
  cbv;all_goals exact trivial
 rintro _ hy1;replace hy1:=hy1.symm;subst hy1;try dsimp only[lr,lrL,lrp,aP] at h
 cbv;obtain rfl:=Option.some.inj h;exact ARet.mk trivial hX.symm
def ir49:J:=js [jq 2 (.box 0),jq 3 (.box 1),jm 4 kf] [2,3] (.seq (js [jf 5 0 2,jk 6 5,jf 7 0 3,jk 8 7,jc 9 56 [6,8],jq 10 (.not 9)] [2,3,10] (.cond 10 (js [jm 4 kf] [4] .ret) .skip)) (.seq (js [jf 11 1 2,jk 12 11,jf 13 1 3,jk 14 13,jc 15 95 [12,14],jq 16 (.not 15)] [16] (.cond 16 (js [jm 4 kf] [4] .ret) .skip)) (js [jm 4 kt] [4] .ret)))
def rv49:List RV:=[.t 4]
def gq (g:G) (t:TE) (a0:Belief) (a1:Belief):Option Bool:=
 cl (eP g t a0.Places a1.Places) fun x1=>
 br x1
 (
  cl (kO g t a0.Rides a1.Rides) fun x2=>
  br x2
  (
   some true)
  (
   some false))
 (
  some false)
theorem lF {g:G} {t:TE} {a0:Belief} {a1:Belief} {r:Bool} (hg:g=G.real) (ht:t=TE.real) (h:gq g t a0 a1=some r):Fn Tryz.prog 49 [.g (Belief.rs t a0),.g (Belief.rs t a1)] (.c (.r (.v (.bool r)))):=by
 obtain⟨X,hX⟩:=aE (.c (.r (.v (.bool r))):X);rw[←hX];refine au (rvs:=rv49) (j:=ir49) Tryz.func49 rfl (by kernel_rfl) (nb rfl) (by kernel_rfl) ae ?_;intro g2 F hg2 hF;obtain rfl:g2=g:=hg2.unique.trans hg.symm;clear hg2;obtain⟨_⟩:=g2;obtain⟨_⟩:=t
 obtain⟨a0_Places,a0_Rides⟩:=a0;obtain⟨a1_Places,a1_Rides⟩:=a1;unfold gq at h;try dsimp only at h
 cbv;obtain⟨x1,hx1,h⟩:=ac h;try dsimp only at h
 refine ACall.mk _ _ rfl (hF _ _ _ (iv hg ht hx1)) (.inl rfl) (nb rfl) ?_;cbv
 cases hb1:x1
 ·rw[aa hb1] at h;cbv;obtain rfl:=Option.some.inj h;exact ARet.mk trivial hX.symm
 rw[ab hb1] at h;cbv;obtain⟨x2,hx2,h⟩:=ac h;try dsimp only at h
 refine ACall.mk _ _ rfl (hF _ _ _ (vE hg ht hx2)) (.inl rfl) (nb rfl) ?_;cbv
 cases hb2:x2
 rotate_left
 ·rw[ab hb2] at h;cbv;obtain rfl:=Option.some.inj h;exact ARet.mk trivial hX.symm
 rw[aa hb2] at h;cbv;obtain rfl:=Option.some.inj h;exact ARet.mk trivial hX.symm
def ir57:J:=js [jm 4 (ki 0)] [0,1] (.seq (js [jm 5 (ki 0)] [0,1,5] (.bl 0 (.seq (js [jm 6 5,jm 7 0,jq 8 (.len false 7),jb 9 .lss .i 6 8] [0,1,5,9] (.cond 9 .skip (.exit 0))) (.seq (.block 1 (js [jm 12 0,jm 13 5,jm 14 1,jc 15 73 [14],ja 16 1 12 13,jp (.st 1 16 15)] [0,1,5] (.reg none [jm 17 1,jb 18 .add .i 17 (ki 1),jm 1 18] [0,1,5]))) (.reg none [jm 10 5,jb 11 .add .i 10 (ki 1),jm 5 11] [0,1,5]))))) (js [jm 19 1,jm 4 19] [4] .ret))
def rv57:List RV:=[.t 4]
def bZ (g:G) (t:TE):Nat→List ByteArray→Int→Int→Option ((List ByteArray)×Int)
 |0,_,_,_=>none
 |n1+1,w1,v1,v2=>
  br (g.lt v2 (g.int (g.dlen (t.d_S w1))))
  (
   cl (ek g t v1) fun x1=>
   gd (((0:Int)≤v2∧v2<(((g.dlen (t.d_S w1)):Nat):Int)))<|
   gt w1 (g.nat v2) fun x2=>
   lP (List.set w1 (g.nat v2) x1) fun(l1:List ByteArray)=>
   bZ g t n1 l1 (g.wrap .i64 (g.add v1 1)) (g.wrap .i64 (g.add v2 1)))
  (
   some (w1,v1))
def fi (g:G) (t:TE) (a0:List ByteArray) (a1:Int):Option (Int×(List ByteArray)):=
 cl (bZ g t 1000000000 a0 a1 0) fun y1=>
 gd ((y1.1.length=a0.length))<|
 some ((y1.2,y1.1))
theorem lM {g:G} {t:TE} {a0:List ByteArray} {a1:Int} {r:Int×(List ByteArray)} (hg:g=G.real) (ht:t=TE.real) (h:fi g t a0 a1=some r):FnM Tryz.prog 57 (.m (.o 1 (t.d_S a0))) [.c (.v (.int .i64 a1))] (.c (.r (.v (.int .i64 r.1)))) (.m (.o 1 (t.d_S r.2))):=by
 obtain⟨X,hX⟩:=aE (.c (.r (.v (.int .i64 r.1))):X);obtain⟨Y,hY⟩:=aE (.m (.o 1 (t.d_S r.2)):AM);rw[←hX,←hY];refine nE (rvs:=rv57) (j:=ir57) Tryz.func57 rfl (by kernel_rfl) (nb rfl) (by kernel_rfl) ae ?_;intro g2 F hg2 hF;obtain rfl:g2=g:=hg2.unique.trans hg.symm;clear hg2;obtain⟨wrap,lt,_,_,_,_,_,_,_,_,_,_,int,add,_,_,_,_,_,_,_,_,_,_,dlen⟩:=g2;obtain⟨_,_,_,_,_,_,_,d_S⟩:=t
 unfold fi at h;try dsimp only at h
 cbv;obtain⟨o1,ho1,h⟩:=ac h;try dsimp only at h
 try rw[hg] at ho1
 try rw[ht] at ho1
 refine ABL.mk {p:Nat×(List ByteArray)×Int×Int//bZ G.real TE.real p.1 p.2.1 p.2.2.1 p.2.2.2=some o1} (fun⟨⟨n1,w1,v1,v2⟩,_⟩=>({sl:=[(0,.c (.f 0 1 0 (dlen (d_S w1)))),(1,.c (.r (.v (.int .i64 v1)))),(5,.c (.r (.v (.int .i64 v2))))],tab:=[(0,some (.arr 1 (d_S w1)))]}:St)) 1 (fun p=>p.1.1) ⟨(1000000000,a0,a1,0),ho1⟩ ((List ByteArray)×Int) (fun⟨y1_1,y1_2⟩=>({sl:=[(1,.c (.r (.v (.int .i64 y1_2))))],tab:=[(0,some (.arr 1 (d_S y1_1)))]}:St)) 1 (fun y=>o1=y) ?_ ?_ ?_
 ·refine Wk.of [(0,some 0)] rfl rfl ?_ ?_
  ·cbv;all_goals exact⟨⟨_,rfl,rfl⟩,⟨_,rfl,rfl⟩,⟨_,rfl,rfl⟩,trivial⟩
  cbv;all_goals exact⟨⟨_,rfl,rfl⟩,trivial⟩
 ·rintro⟨⟨n1,w1,v1,v2⟩,h_1⟩ hq1;try dsimp only at h_1
  clear hq1;rcases n1 with _|n1
  ·rw[bZ] at h_1;cases h_1
  rw[bZ] at h_1;try rw[←hg] at h_1
  try rw[←ht] at h_1
  try dsimp only at h_1
  cbv
  cases hb1:(lt v2 (int (dlen (d_S w1))))
  ·rw[aa hb1] at h_1;cbv;refine⟨(w1,v1),Wk.of [(0,some 0)] rfl rfl ?_ ?_,(Option.some.inj h_1).symm⟩
   ·cbv;all_goals exact⟨⟨_,rfl,rfl⟩,trivial⟩
   cbv;all_goals exact⟨⟨_,rfl,rfl⟩,trivial⟩
  rw[ab hb1] at h_1;cbv;obtain⟨x1,hx1,h_1⟩:=ac h_1;try dsimp only at h_1
  refine ACall.mk _ _ rfl (hF _ _ _ (gV hg ht hx1)) (.inl rfl) (nb rfl) ?_;cbv;obtain⟨hc1,h_1⟩:=ah h_1;refine AStep.mk hc1 ?_;cbv;obtain⟨x2,hx2,h_1⟩:=aB h_1;try dsimp only at h_1
  refine AGet.mk _ (fW hg ht hx2) ?_;cbv;obtain⟨l1,hl1,h_1⟩:=ak h_1;try dsimp only at h_1
  refine ANew.mk (d_S l1) _ (by rw[←hl1];exact FB hg ht _ _ x1) rfl ?_;have hnl1:(dlen (d_S w1))=(d_S l1).length:=(by rw[←hl1,Ea ht];exact(al hg ht _));cbv;try rw[hg] at h_1
  try rw[ht] at h_1
  refine⟨⟨(n1,l1,(wrap .i64 (add v1 1)),(wrap .i64 (add v2 1))),h_1⟩,Wk.of [(0,some 0)] rfl rfl ?_ ?_,Nat.lt_succ_self _⟩
  ·cbv;all_goals try rw[show(dlen (d_S w1))=(dlen (d_S l1)) from(hnl1).trans (al hg ht _).symm]
   all_goals exact⟨⟨_,rfl,rfl⟩,⟨_,rfl,rfl⟩,⟨_,rfl,rfl⟩,trivial⟩
  cbv;all_goals try rw[show(dlen (d_S w1))=(dlen (d_S l1)) from(hnl1).trans (al hg ht _).symm]
  all_goals exact⟨⟨_,rfl,rfl⟩,trivial⟩
 rintro⟨y1_1,y1_2⟩ hy1;replace hy1:=hy1.symm;subst hy1;try dsimp only[lr,lrL,lrp,aP] at h
 cbv;obtain⟨hc2,h⟩:=ah h;obtain rfl:=Option.some.inj h;exact ARetM.mk ⟨rfl,(jM ht (al hg ht _) hc2)⟩ hX.symm hY.symm
def ir96:J:=js [jm 4 (ki 0)] [0,1] (.seq (js [jm 5 (ki 0)] [0,1,5] (.bl 0 (.seq (js [jm 6 5,jm 7 0,jq 8 (.len false 7),jb 9 .lss .i 6 8] [0,1,5,9] (.cond 9 .skip (.exit 0))) (.seq (.block 1 (js [jm 12 0,jm 13 5,jm 14 1,ja 15 2 12 13,jf 16 0 15,jp (.st 1 16 14)] [0,1,5] (js [jm 17 1,jb 18 .add .i 17 (ki 1),jm 1 18] [0,1,5] (js [jm 19 0,jm 20 5,jm 21 1,ja 22 2 19 20,jf 23 1 22,jp (.st 1 23 21)] [0,1,5] (.reg none [jm 24 1,jb 25 .add .i 24 (ki 1),jm 1 25] [0,1,5]))))) (.reg none [jm 10 5,jb 11 .add .i 10 (ki 1),jm 5 11] [0,1,5]))))) (js [jm 26 1,jm 4 26] [4] .ret))
def rv96:List RV:=[.t 4]
def cW (g:G) (t:TE):Nat→List Trip→Int→Int→Option ((List Trip)×Int)
 |0,_,_,_=>none
 |n1+1,w1,v1,v2=>
  br (g.lt v2 (g.int (g.dlen (t.d_Trip w1))))
  (
   gd (((0:Int)≤v2∧v2<(((g.dlen (t.d_Trip w1)):Nat):Int)))<|
   gt w1 (g.nat v2) fun x1=>
   lP (List.set w1 (g.nat v2) (Trip.mk v1 x1.Day)) fun(l1:List Trip)=>
   gd (((0:Int)≤v2∧v2<(((g.dlen (t.d_Trip w1)):Nat):Int)))<|
   gt l1 (g.nat v2) fun x2=>
   lP (List.set l1 (g.nat v2) (Trip.mk x2.Leg (g.wrap .i64 (g.add v1 1)))) fun(l2:List Trip)=>
   cW g t n1 l2 (g.wrap .i64 (g.add (g.wrap .i64 (g.add v1 1)) 1)) (g.wrap .i64 (g.add v2 1)))
  (
   some (w1,v1))
def iF (g:G) (t:TE) (a0:List Trip) (a1:Int):Option (Int×(List Trip)):=
 cl (cW g t 1000000000 a0 a1 0) fun y1=>
 gd ((y1.1.length=a0.length))<|
 some ((y1.2,y1.1))
theorem s9 {g:G} {t:TE} {a0:List Trip} {a1:Int} {r:Int×(List Trip)} (hg:g=G.real) (ht:t=TE.real) (h:iF g t a0 a1=some r):FnM Tryz.prog 96 (.m (.o 2 (t.d_Trip a0))) [.c (.v (.int .i64 a1))] (.c (.r (.v (.int .i64 r.1)))) (.m (.o 2 (t.d_Trip r.2))):=by
 obtain⟨X,hX⟩:=aE (.c (.r (.v (.int .i64 r.1))):X);obtain⟨Y,hY⟩:=aE (.m (.o 2 (t.d_Trip r.2)):AM);rw[←hX,←hY];refine nE (rvs:=rv96) (j:=ir96) Tryz.func96 rfl (by kernel_rfl) (nb rfl) (by kernel_rfl) ae ?_;intro g2 F hg2 hF;obtain rfl:g2=g:=hg2.unique.trans hg.symm;clear hg2;obtain⟨wrap,lt,_,_,_,_,_,_,_,_,_,_,int,add,_,_,_,_,_,_,_,_,_,_,dlen⟩:=g2;obtain⟨_,_,_,_,_,_,_,_,_,d_Trip⟩:=t
 unfold iF at h;try dsimp only at h
 cbv;obtain⟨o1,ho1,h⟩:=ac h;try dsimp only at h
 try rw[hg] at ho1
 try rw[ht] at ho1
 refine ABL.mk {p:Nat×(List Trip)×Int×Int//cW G.real TE.real p.1 p.2.1 p.2.2.1 p.2.2.2=some o1} (fun⟨⟨n1,w1,v1,v2⟩,_⟩=>({sl:=[(0,.c (.f 0 2 0 (dlen (d_Trip w1)))),(1,.c (.r (.v (.int .i64 v1)))),(5,.c (.r (.v (.int .i64 v2))))],tab:=[(0,some (.arr 2 (d_Trip w1)))]}:St)) 1 (fun p=>p.1.1) ⟨(1000000000,a0,a1,0),ho1⟩ ((List Trip)×Int) (fun⟨y1_1,y1_2⟩=>({sl:=[(1,.c (.r (.v (.int .i64 y1_2))))],tab:=[(0,some (.arr 2 (d_Trip y1_1)))]}:St)) 1 (fun y=>o1=y) ?_ ?_ ?_
 ·refine Wk.of [(0,some 0)] rfl rfl ?_ ?_
  ·cbv;all_goals exact⟨⟨_,rfl,rfl⟩,⟨_,rfl,rfl⟩,⟨_,rfl,rfl⟩,trivial⟩
  cbv;all_goals exact⟨⟨_,rfl,rfl⟩,trivial⟩
 ·rintro⟨⟨n1,w1,v1,v2⟩,h_1⟩ hq1;try dsimp only at h_1
  clear hq1;rcases n1 with _|n1
  ·rw[cW] at h_1;cases h_1
  rw[cW] at h_1;try rw[←hg] at h_1
  try rw[←ht] at h_1
  try dsimp only at h_1
  cbv
  cases hb1:(lt v2 (int (dlen (d_Trip w1))))
  ·rw[aa hb1] at h_1;cbv;refine⟨(w1,v1),Wk.of [(0,some 0)] rfl rfl ?_ ?_,(Option.some.inj h_1).symm⟩
   ·cbv;all_goals exact⟨⟨_,rfl,rfl⟩,trivial⟩
   cbv;all_goals exact⟨⟨_,rfl,rfl⟩,trivial⟩
  rw[ab hb1] at h_1;cbv;obtain⟨hc1,h_1⟩:=ah h_1;refine AStep.mk hc1 ?_;cbv;obtain⟨x1,hx1,h_1⟩:=aB h_1;obtain⟨x1_Leg,x1_Day⟩:=x1;try dsimp only at h_1
  refine AGet.mk _ (sH hg ht hx1) ?_;cbv;obtain⟨l1,hl1,h_1⟩:=ak h_1;try dsimp only at h_1
  refine ANew.mk (d_Trip l1) _ (by rw[←hl1];exact tn hg ht _ _ (Trip.mk v1 x1_Day)) rfl ?_;have hnl1:(dlen (d_Trip w1))=(d_Trip l1).length:=(by rw[←hl1,sN ht];exact(a7 hg ht _));cbv;obtain⟨hc2,h_1⟩:=ah h_1;refine AStep.mk hc2 ?_;cbv;obtain⟨x2,hx2,h_1⟩:=aB h_1;obtain⟨x2_Leg,x2_Day⟩:=x2;try dsimp only at h_1
  refine AGet.mk _ (sH hg ht hx2) ?_;cbv;obtain⟨l2,hl2,h_1⟩:=ak h_1;try dsimp only at h_1
  refine ANew.mk (d_Trip l2) _ (by rw[←hl2];exact tn hg ht _ _ (Trip.mk x2_Leg (wrap .i64 (add v1 1)))) rfl ?_;have hnl2:(dlen (d_Trip w1))=(d_Trip l2).length:=(by rw[←hl2,sN ht];exact hnl1);cbv;try rw[hg] at h_1
  try rw[ht] at h_1
  refine⟨⟨(n1,l2,(wrap .i64 (add (wrap .i64 (add v1 1)) 1)),(wrap .i64 (add v2 1))),h_1⟩,Wk.of [(0,some 0)] rfl rfl ?_ ?_,Nat.lt_succ_self _⟩
  ·cbv;all_goals try rw[show(dlen (d_Trip w1))=(dlen (d_Trip l2)) from(hnl2).trans (a7 hg ht _).symm]
   all_goals exact⟨⟨_,rfl,rfl⟩,⟨_,rfl,rfl⟩,⟨_,rfl,rfl⟩,trivial⟩
  cbv;all_goals try rw[show(dlen (d_Trip w1))=(dlen (d_Trip l2)) from(hnl2).trans (a7 hg ht _).symm]
  all_goals exact⟨⟨_,rfl,rfl⟩,trivial⟩
 rintro⟨y1_1,y1_2⟩ hy1;replace hy1:=hy1.symm;subst hy1;try dsimp only[lr,lrL,lrp,aP] at h
 cbv;obtain⟨hc3,h⟩:=ah h;obtain rfl:=Option.some.inj h;exact ARetM.mk ⟨rfl,(jB ht (a7 hg ht _) hc3)⟩ hX.symm hY.symm
def ir50:J:=js [jq 2 (.box 0),jm 4 (ki 0)] [1,2] (js [jf 5 0 2,jk 6 5,jm 7 1,jq 8 (.callm 57 6 [7]),jm 1 8] [1,2] (js [jf 9 1 2,jk 10 9,jm 11 1,jq 12 (.callm 96 10 [11]),jm 1 12] [1] (js [jm 13 1,jm 4 13] [4] .ret)))
def rv50:List RV:=[.t 4]
def gR (g:G) (t:TE) (a0:Belief) (a1:Int):Option (Int×Belief):=
 cl (fi g t a0.Places a1) fun x1=>
 gd ((x1.2.length=a0.Places.length))<|
 cl (iF g t a0.Rides x1.1) fun x2=>
 gd ((x2.2.length=a0.Rides.length))<|
 some ((x2.1,(Belief.mk x1.2 x2.2)))
theorem si {g:G} {t:TE} {a0:Belief} {a1:Int} {r:Int×Belief} (hg:g=G.real) (ht:t=TE.real) (h:gR g t a0 a1=some r):FnM Tryz.prog 50 (.g (Belief.ds t a0)) [.c (.v (.int .i64 a1))] (.c (.r (.v (.int .i64 r.1)))) (.g (Belief.ds t r.2)):=by
 obtain⟨X,hX⟩:=aE (.c (.r (.v (.int .i64 r.1))):X);obtain⟨Y,hY⟩:=aE (.g (Belief.ds t r.2):AM);rw[←hX,←hY];refine nE (rvs:=rv50) (j:=ir50) Tryz.func50 rfl (by kernel_rfl) (nb rfl) (by kernel_rfl) ae ?_;intro g2 F hg2 hF;obtain rfl:g2=g:=hg2.unique.trans hg.symm;clear hg2;obtain⟨_⟩:=g2;obtain⟨_⟩:=t
 obtain⟨a0_Places,a0_Rides⟩:=a0;unfold gR at h;try dsimp only at h
 cbv;refine AStep.mk ⟨rfl,(al hg ht _)⟩ ?_;cbv;obtain⟨x1,hx1,h⟩:=ac h;obtain⟨x1_1,x1_2⟩:=x1;try dsimp only at h
 refine ACallM.mk _ _ _ _ rfl rfl (hF _ _ _ (lM hg ht hx1)) rfl (nb rfl) (nb rfl) ?_;cbv;obtain⟨hc1,h⟩:=ah h;refine AStep.mk ⟨rfl,(a7 hg ht _)⟩ ?_;cbv;obtain⟨x2,hx2,h⟩:=ac h;obtain⟨x2_1,x2_2⟩:=x2;try dsimp only at h
 refine ACallM.mk _ _ _ _ rfl rfl (hF _ _ _ (s9 hg ht hx2)) rfl (nb rfl) (nb rfl) ?_;cbv;obtain⟨hc2,h⟩:=ah h;obtain rfl:=Option.some.inj h;exact ARetM.mk ⟨⟨rfl,(jM ht (al hg ht _) hc1)⟩,⟨rfl,(jB ht (a7 hg ht _) hc2)⟩⟩ hX.symm hY.symm
def ir58:J:=js [jm 4 (ki 0)] [0,1] (.seq (js [jm 5 (ki 0)] [0,1,5] (.bl 0 (.seq (js [jm 6 5,jm 7 0,jq 8 (.len false 7),jb 9 .lss .i 6 8] [0,1,5,9] (.cond 9 .skip (.exit 0))) (.seq (.block 1 (.seq (.seq (.reg (some [[],[],[0,1],[0,1,2],[],[4],[0,1,2,3,4,5]]) [jm 12 0,jm 13 5,ja 14 1 12 13,jk 15 14,jm 16 1,jc 17 73 [16],jb 18 .neq .s 15 17] [0,1,5,18]) (.cond 18 (js [jq 4 (.mv (.k (V.i (-1))))] [4] .ret) .skip)) (.reg none [jm 19 1,jb 20 .add .i 19 (ki 1),jm 1 20] [0,1,5]))) (.reg none [jm 10 5,jb 11 .add .i 10 (ki 1),jm 5 11] [0,1,5]))))) (js [jm 21 1,jm 4 21] [4] .ret))
def rv58:List RV:=[.t 4]
def bU (g:G) (t:TE):List ByteArray→Int→Option (LR Int Int)
 |[],v1=>
  some (LR.out v1)
 |z1::ls1,v1=>
  cl (ek g t v1) fun x1=>
  br (g.seq z1 x1)
  (
   bU g t ls1 (g.wrap .i64 (g.add v1 1)))
  (
   some (LR.ret (-1)))
def eu (g:G) (t:TE) (a0:List ByteArray) (a1:Int):Option Int:=
 cl (bU g t a0 a1) fun o1=>lr o1 fun y1=>
 some y1
theorem iR {g:G} {t:TE} {a0:List ByteArray} {a1:Int} {r:Int} (hg:g=G.real) (ht:t=TE.real) (h:eu g t a0 a1=some r):Fn Tryz.prog 58 [.c (.s 1 (t.r_S a0)),.c (.v (.int .i64 a1))] (.c (.r (.v (.int .i64 r)))):=by
 obtain⟨X,hX⟩:=aE (.c (.r (.v (.int .i64 r))):X);rw[←hX];refine au (rvs:=rv58) (j:=ir58) Tryz.func58 rfl (by kernel_rfl) (nb rfl) (by kernel_rfl) ae ?_;intro g2 F hg2 hF;obtain rfl:g2=g:=hg2.unique.trans hg.symm;clear hg2;obtain⟨wrap,lt,_,_,_,_,_,_,_,_,_,_,_,add,_,_,_,seq,_,_,_,llen⟩:=g2;obtain⟨_,_,_,_,_,_,r_S⟩:=t
 unfold eu at h;try dsimp only at h
 cbv;obtain⟨o1,ho1,h⟩:=ac h;try dsimp only at h
 try rw[hg] at ho1
 try rw[ht] at ho1
 refine ABL.mk {p:Nat×Int×Int//p.1≤a0.length∧p.2.1=((p.1:Nat):Int)∧bU G.real TE.real (List.drop p.1 a0) p.2.2=some o1} (fun⟨⟨k1,v2,v1⟩,_⟩=>({sl:=[(0,.c (.r (.s 1 (r_S a0)))),(1,.c (.r (.v (.int .i64 v1)))),(5,.c (.r (.v (.int .i64 v2))))],tab:=[]}:St)) 0 (fun p=>a0.length-p.1.1) ⟨(0,0,a1),Nat.zero_le _,rfl,ho1⟩ (Int) (fun y1=>({sl:=[(1,.c (.r (.v (.int .i64 y1))))],tab:=[]}:St)) 0 (fun y=>o1=LR.out y) ?_ ?_ ?_
 ·refine Wk.of [] rfl rfl ?_ ?_
  ·cbv;all_goals exact⟨⟨_,rfl,rfl⟩,⟨_,rfl,rfl⟩,⟨_,rfl,rfl⟩,trivial⟩
  cbv;all_goals exact trivial
 ·rintro⟨⟨k1,v2,v1⟩,hk1,hi1,h_1⟩ hq1;have hm1:=(hq1.1 0 _ _ rfl);try dsimp only at hk1 hi1 h_1
  clear hq1;cbv
  by_cases hc1_:k1<a0.length
  ·have hb1:lt v2 (llen (r_S a0))=true:=jS hg ht hi1 hc1_;have hs1:=oO hg ht hi1 hc1_ hm1;obtain⟨z1,hz1⟩:=aF hc1_;rw[aw hz1] at h_1;rw[bU] at h_1;try rw[←hg] at h_1
   try rw[←ht] at h_1
   try dsimp only at h_1
   rw[hb1];cbv;refine AStep.mk (e7 hi1) ?_;cbv;refine AGet.mk _ (oP hg ht hi1 hz1) ?_;cbv;obtain⟨x1,hx1,h_1⟩:=ac h_1;try dsimp only at h_1
   refine ACall.mk _ _ rfl (hF _ _ _ (gV hg ht hx1)) (.inl rfl) (nb rfl) ?_;cbv
   cases hb2:(seq z1 x1)
   ·rw[aa hb2] at h_1;cbv;obtain rfl:=Option.some.inj h_1;try dsimp only[lr,lrL,lrp,aP] at h
    obtain rfl:=Option.some.inj h;exact ARet.mk trivial hX.symm
   rw[ab hb2] at h_1;cbv;try rw[hg] at h_1
   try rw[ht] at h_1
   refine⟨⟨(k1+1,(wrap .i64 (add v2 1)),(wrap .i64 (add v1 1))),hc1_,hs1,h_1⟩,Wk.of [] rfl rfl ?_ ?_,aO hc1_⟩
   ·cbv;all_goals exact⟨⟨_,rfl,rfl⟩,⟨_,rfl,rfl⟩,⟨_,rfl,rfl⟩,trivial⟩
   cbv;all_goals exact trivial
  have hb1:lt v2 (llen (r_S a0))=false:=iH hg ht hi1 hc1_;rw[List.drop_of_length_le (Nat.le_of_not_lt hc1_)] at h_1;rw[bU] at h_1;try rw[←hg] at h_1
  try rw[←ht] at h_1
  try dsimp only at h_1
  rw[hb1];cbv;refine⟨v1,Wk.of [] rfl rfl ?_ ?_,(Option.some.inj h_1).symm⟩
  ·cbv;all_goals exact⟨⟨_,rfl,rfl⟩,trivial⟩
  cbv;all_goals exact trivial
 rintro y1 hy1;replace hy1:=hy1.symm;subst hy1;try dsimp only[lr,lrL,lrp,aP] at h
 cbv;obtain rfl:=Option.some.inj h;exact ARet.mk trivial hX.symm
def ir97:J:=js [jm 4 (ki 0)] [0,1] (.seq (js [jm 5 (ki 0)] [0,1,5] (.bl 0 (.seq (js [jm 6 5,jm 7 0,jq 8 (.len false 7),jb 9 .lss .i 6 8] [0,1,5,9] (.cond 9 .skip (.exit 0))) (.seq (.block 1 (.seq (js [jm 12 0,jm 13 5,ja 14 2 12 13,jf 15 0 14,jk 16 15,jm 17 1,jb 18 .neq .i 16 17] [0,1,5,18] (.cond 18 (js [jq 4 (.mv (.k (V.i (-1))))] [4] .ret) .skip)) (js [jm 19 1,jb 20 .add .i 19 (ki 1),jm 1 20] [0,1,5] (.seq (js [jm 21 0,jm 22 5,ja 23 2 21 22,jf 24 1 23,jk 25 24,jm 26 1,jb 27 .neq .i 25 26] [0,1,5,27] (.cond 27 (js [jq 4 (.mv (.k (V.i (-1))))] [4] .ret) .skip)) (.reg none [jm 28 1,jb 29 .add .i 28 (ki 1),jm 1 29] [0,1,5]))))) (.reg none [jm 10 5,jb 11 .add .i 10 (ki 1),jm 5 11] [0,1,5]))))) (js [jm 30 1,jm 4 30] [4] .ret))
def rv97:List RV:=[.t 4]
def cV (g:G) (t:TE):List Trip→Int→LR Int Int
 |[],v1=>
  (LR.out v1)
 |z1::ls1,v1=>
  br (g.eq z1.Leg v1)
  (
   br (g.eq z1.Day (g.wrap .i64 (g.add v1 1)))
   (
    cV g t ls1 (g.wrap .i64 (g.add (g.wrap .i64 (g.add v1 1)) 1)))
   (
    (LR.ret (-1))))
  (
   (LR.ret (-1)))
def iA (g:G) (t:TE) (a0:List Trip) (a1:Int):Int:=
 lP (cV g t a0 a1) fun o1=>lrp o1 fun y1=>
 y1
theorem ti {g:G} {t:TE} {a0:List Trip} {a1:Int} {r:Int} (hg:g=G.real) (ht:t=TE.real) (h:iA g t a0 a1=r):Fn Tryz.prog 97 [.c (.s 2 (t.r_Trip a0)),.c (.v (.int .i64 a1))] (.c (.r (.v (.int .i64 r)))):=by
 obtain⟨X,hX⟩:=aE (.c (.r (.v (.int .i64 r))):X);rw[←hX];refine au (rvs:=rv97) (j:=ir97) Tryz.func97 rfl (by kernel_rfl) (nb rfl) (by kernel_rfl) ae ?_;intro g2 F hg2 hF;obtain rfl:g2=g:=hg2.unique.trans hg.symm;clear hg2;obtain⟨wrap,lt,_,eq,_,_,_,_,_,_,_,_,_,add,_,_,_,_,_,_,_,llen⟩:=g2;obtain⟨_,_,_,_,_,_,_,_,r_Trip⟩:=t
 unfold iA at h;try dsimp only at h
 cbv;obtain⟨o1,ho1,h⟩:=ak h;try dsimp only at h
 try rw[hg] at ho1
 try rw[ht] at ho1
 refine ABL.mk {p:Nat×Int×Int//p.1≤a0.length∧p.2.1=((p.1:Nat):Int)∧cV G.real TE.real (List.drop p.1 a0) p.2.2=o1} (fun⟨⟨k1,v2,v1⟩,_⟩=>({sl:=[(0,.c (.r (.s 2 (r_Trip a0)))),(1,.c (.r (.v (.int .i64 v1)))),(5,.c (.r (.v (.int .i64 v2))))],tab:=[]}:St)) 0 (fun p=>a0.length-p.1.1) ⟨(0,0,a1),Nat.zero_le _,rfl,ho1⟩ (Int) (fun y1=>({sl:=[(1,.c (.r (.v (.int .i64 y1))))],tab:=[]}:St)) 0 (fun y=>o1=LR.out y) ?_ ?_ ?_
 ·refine Wk.of [] rfl rfl ?_ ?_
  ·cbv;all_goals exact⟨⟨_,rfl,rfl⟩,⟨_,rfl,rfl⟩,⟨_,rfl,rfl⟩,trivial⟩
  cbv;all_goals exact trivial
 ·rintro⟨⟨k1,v2,v1⟩,hk1,hi1,h_1⟩ hq1;have hm1:=(hq1.1 0 _ _ rfl);try dsimp only at hk1 hi1 h_1
  clear hq1;cbv
  by_cases hc1_:k1<a0.length
  ·have hb1:lt v2 (llen (r_Trip a0))=true:=nl hg ht hi1 hc1_;have hs1:=sc hg ht hi1 hc1_ hm1;obtain⟨z1,hz1⟩:=aF hc1_;rw[aw hz1] at h_1;rw[cV] at h_1;obtain⟨z1_Leg,z1_Day⟩:=z1;try rw[←hg] at h_1
   try rw[←ht] at h_1
   try dsimp only at h_1
   rw[hb1];cbv;refine AStep.mk (e7 hi1) ?_;cbv;refine AGet.mk _ (ml hg ht hi1 hz1) ?_;cbv
   cases hb2:(eq z1_Leg v1)
   ·rw[aa hb2] at h_1;cbv;subst h_1;try dsimp only[lr,lrL,lrp,aP] at h
    subst h;exact ARet.mk trivial hX.symm
   rw[ab hb2] at h_1;cbv;refine AStep.mk (e7 hi1) ?_;cbv;refine AGet.mk _ (ml hg ht hi1 hz1) ?_;cbv
   cases hb3:(eq z1_Day (wrap .i64 (add v1 1)))
   ·rw[aa hb3] at h_1;cbv;subst h_1;try dsimp only[lr,lrL,lrp,aP] at h
    subst h;exact ARet.mk trivial hX.symm
   rw[ab hb3] at h_1;cbv;try rw[hg] at h_1
   try rw[ht] at h_1
   refine⟨⟨(k1+1,(wrap .i64 (add v2 1)),(wrap .i64 (add (wrap .i64 (add v1 1)) 1))),hc1_,hs1,h_1⟩,Wk.of [] rfl rfl ?_ ?_,aO hc1_⟩
   ·cbv;all_goals exact⟨⟨_,rfl,rfl⟩,⟨_,rfl,rfl⟩,⟨_,rfl,rfl⟩,trivial⟩
   cbv;all_goals exact trivial
  have hb1:lt v2 (llen (r_Trip a0))=false:=mb hg ht hi1 hc1_;rw[List.drop_of_length_le (Nat.le_of_not_lt hc1_)] at h_1;rw[cV] at h_1;try rw[←hg] at h_1
  try rw[←ht] at h_1
  try dsimp only at h_1
  rw[hb1];cbv;refine⟨v1,Wk.of [] rfl rfl ?_ ?_,h_1.symm⟩
  ·cbv;all_goals exact⟨⟨_,rfl,rfl⟩,trivial⟩
  cbv;all_goals exact trivial
 rintro y1 hy1;replace hy1:=hy1.symm;subst hy1;try dsimp only[lr,lrL,lrp,aP] at h
 cbv;subst h;exact ARet.mk trivial hX.symm
def ir51:J:=js [jq 2 (.box 0),jm 4 (ki 0)] [1,2] (js [jf 5 0 2,jk 6 5,jm 7 1,jc 8 58 [6,7],jm 1 8] [1,2] (.seq (js [jm 9 1,jb 10 .lss .i 9 (ki 0)] [1,2,10] (.cond 10 (js [jq 4 (.mv (.k (V.i (-1))))] [4] .ret) .skip)) (js [jf 11 1 2,jk 12 11,jm 13 1,jc 14 97 [12,13],jm 1 14] [1] (.seq (js [jm 15 1,jb 16 .lss .i 15 (ki 0)] [1,16] (.cond 16 (js [jq 4 (.mv (.k (V.i (-1))))] [4] .ret) .skip)) (js [jm 17 1,jm 4 17] [4] .ret)))))
def rv51:List RV:=[.t 4]
def f5 (g:G) (t:TE) (a0:Belief) (a1:Int):Option Int:=
 cl (eu g t a0.Places a1) fun x1=>
 br (g.lt x1 0)
 (
  some (-1))
 (
  lP (iA g t a0.Rides x1) fun x2=>
  br (g.lt x2 0)
  (
   some (-1))
  (
   some x2))
theorem lZ {g:G} {t:TE} {a0:Belief} {a1:Int} {r:Int} (hg:g=G.real) (ht:t=TE.real) (h:f5 g t a0 a1=some r):Fn Tryz.prog 51 [.g (Belief.rs t a0),.c (.v (.int .i64 a1))] (.c (.r (.v (.int .i64 r)))):=by
 obtain⟨X,hX⟩:=aE (.c (.r (.v (.int .i64 r))):X);rw[←hX];refine au (rvs:=rv51) (j:=ir51) Tryz.func51 rfl (by kernel_rfl) (nb rfl) (by kernel_rfl) ae ?_;intro g2 F hg2 hF;obtain rfl:g2=g:=hg2.unique.trans hg.symm;clear hg2;obtain⟨_,lt⟩:=g2;obtain⟨_⟩:=t
 obtain⟨a0_Places,a0_Rides⟩:=a0;unfold f5 at h;try dsimp only at h
 cbv;obtain⟨x1,hx1,h⟩:=ac h;try dsimp only at h
 refine ACall.mk _ _ rfl (hF _ _ _ (iR hg ht hx1)) (.inl rfl) (nb rfl) ?_;cbv
 cases hb1:(lt x1 0)
 rotate_left
 ·rw[ab hb1] at h;cbv;obtain rfl:=Option.some.inj h;exact ARet.mk trivial hX.symm
 rw[aa hb1] at h;cbv;obtain⟨x2,hx2,h⟩:=ak h;try dsimp only at h
 refine ACall.mk _ _ rfl (hF _ _ _ (ti hg ht hx2)) (.inl rfl) (nb rfl) ?_;cbv
 cases hb2:(lt x2 0)
 rotate_left
 ·rw[ab hb2] at h;cbv;obtain rfl:=Option.some.inj h;exact ARet.mk trivial hX.symm
 rw[aa hb2] at h;cbv;obtain rfl:=Option.some.inj h;exact ARet.mk trivial hX.symm
def fL (g:G) (t:TE):List Scan→Int→Option (LR Int Int)
 |[],v1=>
  some (LR.out v1)
 |z1::ls1,v1=>
  br (g.eq z1.Thing v1)
  (
   br (g.eq z1.At (g.wrap .i64 (g.add v1 1)))
   (
    br (g.eq z1.Kind (g.wrap .i64 (g.add (g.wrap .i64 (g.add v1 1)) 1)))
    (
     cl (ek g t (g.wrap .i64 (g.add (g.wrap .i64 (g.add (g.wrap .i64 (g.add v1 1)) 1)) 1))) fun x1=>
     br (g.seq z1.Place x1)
     (
      br (g.eq z1.Trip.Leg (g.wrap .i64 (g.add (g.wrap .i64 (g.add (g.wrap .i64 (g.add (g.wrap .i64 (g.add v1 1)) 1)) 1)) 1)))
      (
       br (g.eq z1.Trip.Day (g.wrap .i64 (g.add (g.wrap .i64 (g.add (g.wrap .i64 (g.add (g.wrap .i64 (g.add (g.wrap .i64 (g.add v1 1)) 1)) 1)) 1)) 1)))
       (
        fL g t ls1 (g.wrap .i64 (g.add (g.wrap .i64 (g.add (g.wrap .i64 (g.add (g.wrap .i64 (g.add (g.wrap .i64 (g.add (g.wrap .i64 (g.add v1 1)) 1)) 1)) 1)) 1)) 1)))
       (
        some (LR.ret (-1))))
      (
       some (LR.ret (-1))))
     (
      some (LR.ret (-1))))
    (
     some (LR.ret (-1))))
   (
    some (LR.ret (-1))))
  (
   some (LR.ret (-1)))
def p7 (g:G) (t:TE) (a0:List Scan) (a1:Int):Option Int:=
 cl (fL g t a0 a1) fun o1=>lr o1 fun y1=>
 some y1
def gb (g:G) (t:TE):List Int→Int→LR Int Int
 |[],v1=>
  (LR.out v1)
 |z1::ls1,v1=>
  br (g.eq z1 v1)
  (
   gb g t ls1 (g.wrap .i64 (g.add v1 1)))
  (
   (LR.ret (-1)))
def rG (g:G) (t:TE) (a0:List Int) (a1:Int):Int:=
 lP (gb g t a0 a1) fun o1=>lrp o1 fun y1=>
 y1
def ir43:J:=js [jq 5 (.box 0),jm 10 kf] [1,2,3,4,5] (js [jl 11 3 5,jc 12 88 [11],jm 13 12,ju 14 13 (.ld true 3 5),ju 15 13 (.call 82 true [14]),ju 16 13 (.mv 4),ju 17 13 (.call 81 true [15,16]),ju 18 13 (.bin .geq .i 17 (ki 0)),jq 19 (.pick 13 18 kf),jm 20 19,ju 21 20 (.ld true 3 5),ju 22 20 (.mv 1),ju 23 20 (.mv 2),ju 24 20 (.mv 3),ju 25 20 (.call 89 true [21,22,23,24]),ju 26 20 (.mv 4),ju 27 20 (.call 90 true [25,26]),jq 28 (.pick 20 27 kf),jm 10 28] [10] .ret)
def rv43:List RV:=[.t 10]
def kX (g:G) (t:TE) (a0:Network) (a1:List Scan) (a2:Int) (a3:Int) (a4:ByteArray):Option Bool:=
 cl (dk g t a0) fun x1=>
 br x1
 (
  cl (en g t a0) fun x2=>
  lP (dP g t x2 a4) fun x3=>
  br (g.le 0 x3)
  (
   cl (jA g t a0 a1 a2 a3) fun x4=>
   cl (av g t (Know.mk (Network.mk x4.n.Legs x4.n.Off x4.n.Change) x4.at_ x4.known x4.place (Trip.mk x4.ride.Leg x4.ride.Day) x4.rides x4.free (Spot.mk x4.from_.Place x4.from_.At) (Spot.mk x4.to.Place x4.to.At) x4.more) a4) fun x5=>
   some x5)
  (
   some false))
 (
  some false)
theorem wb {g:G} {t:TE} {a0:Network} {a1:List Scan} {a2:Int} {a3:Int} {a4:ByteArray} {r:Bool} (hg:g=G.real) (ht:t=TE.real) (h:kX g t a0 a1 a2 a3 a4=some r):Fn Tryz.prog 43 [.g (Network.rs t a0),.c (.s 6 (t.r_Scan a1)),.c (.v (.int .i64 a2)),.c (.v (.int .i64 a3)),.c (.v (.string a4))] (.c (.r (.v (.bool r)))):=by
 obtain⟨X,hX⟩:=aE (.c (.r (.v (.bool r))):X);rw[←hX];refine au (rvs:=rv43) (j:=ir43) Tryz.func43 rfl (by kernel_rfl) (nb rfl) (by kernel_rfl) ae ?_;intro g2 F hg2 hF;obtain rfl:g2=g:=hg2.unique.trans hg.symm;clear hg2;obtain⟨_,_,le,_,_,_,_,_,_,_,_,_,_,_,_,_,_,_,_,_,_,_,_,_,dlen,_,_,_,rd⟩:=g2;obtain⟨_,_,_,_,_,_,r_S,d_S⟩:=t
 obtain⟨a0_Legs,a0_Off,a0_Change⟩:=a0;unfold kX at h;try dsimp only at h
 cbv;obtain⟨x1,hx1,h⟩:=ac h;try dsimp only at h
 refine ACall.mk _ _ rfl (hF _ _ _ (gj hg ht hx1)) (.inl rfl) (nb rfl) ?_;cbv
 cases hb1:x1
 ·rw[aa hb1] at h;cbv;iterate 5 try(rw[hb1];cbv)
  obtain rfl:=Option.some.inj h;exact ARet.mk trivial hX.symm
 rw[ab hb1] at h;cbv;try(rw[hb1];cbv)
 obtain⟨x2,hx2,h⟩:=ac h;try dsimp only at h
 refine ACall.mk _ _ rfl (hF _ _ _ (fO hg ht hx2)) (.inl rfl) (nb rfl) ?_;cbv;iterate 2 try(rw[hb1];cbv)
 refine AStep.mk (dN ht (al hg ht _)) ?_;cbv;obtain⟨x3,hx3,h⟩:=ak h;try dsimp only at h
 refine ACall.mk _ _ (by rw[show rd (d_S x2) 0 (dlen (d_S x2))=r_S x2 from f7 hg ht (al hg ht _)];try rfl) (hF _ _ _ (fF hg ht hx3)) (.inr rfl) (nb rfl) ?_
 cbv;iterate 2 try(rw[hb1];cbv)
 cases hb2:(le 0 x3)
 ·rw[aa hb2] at h;cbv;iterate 7 try(rw[hb2];cbv)
  obtain rfl:=Option.some.inj h;exact ARet.mk trivial hX.symm
 rw[ab hb2] at h;cbv;iterate 4 try(rw[hb2];cbv)
 obtain⟨x4,hx4,h⟩:=ac h;obtain⟨⟨x4_n_Legs,x4_n_Off,x4_n_Change⟩,x4_at_,x4_known,x4_place,⟨x4_ride_Leg,x4_ride_Day⟩,x4_rides,x4_free,⟨x4_from__Place,x4_from__At⟩,⟨x4_to_Place,x4_to_At⟩,x4_more⟩:=x4;try dsimp only at h
 refine ACall.mk _ _ rfl (hF _ _ _ (pX hg ht hx4)) (.inl rfl) (nb rfl) ?_;cbv;iterate 2 try(rw[hb2];cbv)
 obtain⟨x5,hx5,h⟩:=ac h;try dsimp only at h
 refine ACall.mk _ _ rfl (hF _ _ _ (bV hg ht hx5)) (.inl rfl) (nb rfl) ?_;cbv;try(rw[hb2];cbv)
 obtain rfl:=Option.some.inj h;exact ARet.mk trivial hX.symm
def ir55:J:=js [jq 5 (.box 0),jq 10 (.mv (.k (.c (.n 1))))] [1,2,3,4,5] (js [jq 14 (.bsl 1 []),jm 11 14] [1,2,3,4,5,11] (.seq (js [jl 15 3 5,jm 16 1,jm 17 2,jm 18 4,jc 19 48 [15,16,17,18],jq 20 (.fld false 0 1 19),jq 21 (.len false 20),jm 22 (ki 0)] [1,3,4,5,11,20,21,22] (.bl 0 (js [jb 23 .lss .i 22 21] [1,3,4,5,11,20,21,22,23] (.seq (.cond 23 .skip (.exit 0)) (.seq (.block 1 (js [ja 24 1 20 22,jk 25 24,jm 13 25] [1,3,4,5,11,13,20,21,22] (js [jl 26 3 5,jm 27 1,jm 28 3,jm 29 4,jm 30 13,jc 31 43 [26,27,28,29,30]] [1,3,4,5,11,13,20,21,22,31] (.cond 31 (.reg none [jm 32 11,jm 33 13,jq 34 (.bsl 1 [33]),jq 35 (.app 1 16 true 32 34),jm 11 35] [1,3,4,5,11,20,21,22]) .skip)))) (.reg none [jb 36 .add .i 22 (ki 1),jm 22 36] [1,3,4,5,11,20,21,22])))))) (js [jm 37 11,jm 10 37] [10] .ret)))
def rv55:List RV:=[.t 10]
def eW (g:G) (t:TE) (a0:Network) (a1:List Scan) (a3:Int) (a4:Int) (x1:Belief):Nat→Int→List ByteArray→Option (List ByteArray)
 |0,v1,w1=>
  some w1
 |n1+1,v1,w1=>
  gt x1.Places (g.nat v1) fun x2=>
  cl (kX g t a0 a1 a3 a4 x2) fun x3=>
  br x3
  (
   lP ([x2]) fun(l2:List ByteArray)=>
   gd (((w1.length+l2.length)*16≤70368744177664))<|
   lP (w1++l2) fun(l3:List ByteArray)=>
   eW g t a0 a1 a3 a4 x1 n1 (g.wrap .i64 (g.add v1 1)) l3)
  (
   eW g t a0 a1 a3 a4 x1 n1 (g.wrap .i64 (g.add v1 1)) w1)
def mT (g:G) (t:TE) (a0:Network) (a1:List Scan) (a2:Int) (a3:Int) (a4:Int):Option (List ByteArray):=
 lP ([]) fun(l1:List ByteArray)=>
 cl (go g t a0 a1 a2 a4) fun x1=>
 gd (((g.int (g.dlen (t.d_S x1.Places)))≤9223372036854775807))<|
 cl (eW g t a0 a1 a3 a4 x1 (aq 0 (g.int (g.dlen (t.d_S x1.Places)))) 0 l1) fun y1=>
 some y1
theorem t6 {g:G} {t:TE} {a0:Network} {a1:List Scan} {a2:Int} {a3:Int} {a4:Int} {r:List ByteArray} (hg:g=G.real) (ht:t=TE.real) (h:mT g t a0 a1 a2 a3 a4=some r):Fn Tryz.prog 55 [.g (Network.rs t a0),.c (.s 6 (t.r_Scan a1)),.c (.v (.int .i64 a2)),.c (.v (.int .i64 a3)),.c (.v (.int .i64 a4))] (.c (.o 1 (t.d_S r))):=by
 obtain⟨X,hX⟩:=aE (.c (.o 1 (t.d_S r)):X);rw[←hX];refine au (rvs:=rv55) (j:=ir55) Tryz.func55 rfl (by kernel_rfl) (nb rfl) (by kernel_rfl) ae ?_;intro g2 F hg2 hF;obtain rfl:g2=g:=hg2.unique.trans hg.symm;clear hg2;obtain⟨wrap,lt,_,_,_,_,_,_,_,_,_,_,int,add,_,_,_,_,_,_,_,_,_,_,dlen⟩:=g2;obtain⟨r_Leg,_,r_I64,_,r_Scan,_,_,d_S⟩:=t
 obtain⟨a0_Legs,a0_Off,a0_Change⟩:=a0;unfold mT at h;try dsimp only at h
 cbv;obtain⟨l1,hl1,h⟩:=ak h;try dsimp only at h
 refine ANew.mk (d_S l1) (dlen (d_S l1)) (by rw[←hl1];exact gY hg ht []) (by rw[←hl1];exact fm hg ht []) ?_;cbv;obtain⟨x1,hx1,h⟩:=ac h;obtain⟨x1_Places,x1_Rides⟩:=x1;try dsimp only at h
 refine ACall.mk _ _ rfl (hF _ _ _ (lI hg ht hx1)) (.inl rfl) (nb rfl) ?_;cbv;obtain⟨hB1,h⟩:=ah h;obtain⟨o1,ho1,h⟩:=ac h;try dsimp only at h
 try rw[hg] at ho1
 try rw[ht] at ho1
 refine ABL.mk {p:Nat×Int×List ByteArray//p.1=aq p.2.1 (int (dlen (d_S x1_Places)))∧0≤p.2.1∧eW G.real TE.real (Network.mk a0_Legs a0_Off a0_Change) a1 a3 a4 (Belief.mk x1_Places x1_Rides) p.1 p.2.1 p.2.2=some o1} (fun⟨⟨n1,v1,w1⟩,_⟩=>({sl:=[(1,.c (.r (.s 6 (r_Scan a1)))),(3,.c (.r (.v (.int .i64 a3)))),(4,.c (.r (.v (.int .i64 a4)))),(5,.c (.p 0 3 0 0)),(11,.c (.f 1 1 0 (dlen (d_S w1)))),(20,.c (.f 2 1 0 (dlen (d_S x1_Places)))),(21,.c (.r (.v (.int .i64 (int (dlen (d_S x1_Places))))))),(22,.c (.r (.v (.int .i64 v1))))],tab:=[(0,some (.foc 3 [] [.r (.s 6 (r_Leg a0_Legs)),.r (.s 1 (r_I64 a0_Off)),.r (.v (.int .i64 a0_Change))] [])),(1,some (.arr 1 (d_S w1))),(2,some (.arr 1 (d_S x1_Places)))]}:St)) 3 (fun p=>p.1.1) ⟨(aq 0 (int (dlen (d_S x1_Places))),0,l1),rfl,Int.le_refl _,ho1⟩ (List ByteArray) (fun y1=>({sl:=[(11,.c (.f 0 1 0 (dlen (d_S y1))))],tab:=[(0,some (.arr 1 (d_S y1)))]}:St)) 1 (fun y=>o1=y) ?_ ?_ ?_
 ·refine Wk.of [(0,some 0),(1,some 32),(2,some 128)] rfl rfl ?_ ?_
  ·cbv;all_goals exact⟨⟨_,rfl,rfl⟩,⟨_,rfl,rfl⟩,⟨_,rfl,rfl⟩,⟨_,rfl,rfl⟩,⟨_,rfl,rfl⟩,⟨_,rfl,rfl⟩,⟨_,rfl,rfl⟩,⟨_,rfl,rfl⟩,trivial⟩
  cbv;all_goals exact⟨⟨_,rfl,_,rfl,rfl,rfl,rfl,trivial⟩,⟨_,rfl,rfl⟩,⟨_,rfl,rfl⟩,trivial⟩
 ·rintro⟨⟨n1,v1,w1⟩,hn1,hi1,h_1⟩ hq1;try dsimp only at hn1 hi1 h_1
  clear hq1;cbv;rcases n1 with _|n1
  ·have hb1:lt v1 (int (dlen (d_S x1_Places)))=false:=be hg hn1;rw[eW] at h_1;try rw[←hg] at h_1
   try rw[←ht] at h_1
   try dsimp only at h_1
   rw[hb1];cbv;refine⟨w1,Wk.of [(0,some 1)] rfl rfl ?_ ?_,(Option.some.inj h_1).symm⟩
   ·cbv;all_goals exact⟨⟨_,rfl,rfl⟩,trivial⟩
   cbv;all_goals exact⟨⟨_,rfl,rfl⟩,trivial⟩
  have hb1:lt v1 (int (dlen (d_S x1_Places)))=true:=bF hg hn1;have hl1:=dM hn1;have hs1:=cF hg hn1 hi1 hB1 (by decide);rw[eW] at h_1;try rw[←hg] at h_1
  try rw[←ht] at h_1
  try dsimp only at h_1
  rw[hb1];cbv;refine AStep.mk (dB hg hi1 hl1) ?_;cbv;obtain⟨x2,hx2,h_1⟩:=aB h_1;try dsimp only at h_1
  refine AGet.mk _ (fW hg ht hx2) ?_;cbv;obtain⟨x3,hx3,h_1⟩:=ac h_1;try dsimp only at h_1
  refine ACall.mk _ _ rfl (hF _ _ _ (wb hg ht hx3)) (.inl rfl) (nb rfl) ?_;cbv
  cases hb2:x3
  ·rw[aa hb2] at h_1;cbv;try rw[hg] at h_1
   try rw[ht] at h_1
   refine⟨⟨(n1,(wrap .i64 (add v1 1)),w1),hs1.1,hs1.2,h_1⟩,Wk.of [(0,some 0),(1,some 1),(2,some 2)] rfl rfl ?_ ?_,Nat.lt_succ_self _⟩
   ·cbv;all_goals exact⟨⟨_,rfl,rfl⟩,⟨_,rfl,rfl⟩,⟨_,rfl,rfl⟩,⟨_,rfl,rfl⟩,⟨_,rfl,rfl⟩,⟨_,rfl,rfl⟩,⟨_,rfl,rfl⟩,⟨_,rfl,rfl⟩,trivial⟩
   cbv;all_goals exact⟨⟨_,rfl,_,rfl,rfl,rfl,rfl,trivial⟩,⟨_,rfl,rfl⟩,⟨_,rfl,rfl⟩,trivial⟩
  rw[ab hb2] at h_1;cbv;obtain⟨l2,hl2,h_1⟩:=ak h_1;try dsimp only at h_1
  refine ANew.mk (d_S l2) (dlen (d_S l2)) (by rw[←hl2];exact gY hg ht [x2]) (by rw[←hl2];exact fm hg ht [x2]) ?_;cbv;obtain⟨hc1,h_1⟩:=ah h_1;refine AStep.mk ⟨⟨rfl,(al hg ht _)⟩,(cU hg ht (al hg ht _) rfl hc1)⟩ ?_;cbv;obtain⟨l3,hl3,h_1⟩:=ak h_1;try dsimp only at h_1
  refine ANew.mk (d_S l3) (dlen (d_S l3)) (by rw[←hl3];exact iO hg ht (al hg ht _) rfl) (by rw[←hl3];exact fA hg ht (al hg ht _) rfl) ?_;cbv;try rw[hg] at h_1
  try rw[ht] at h_1
  refine⟨⟨(n1,(wrap .i64 (add v1 1)),l3),hs1.1,hs1.2,h_1⟩,Wk.of [(0,some 0),(1,some 211),(2,some 2)] rfl rfl ?_ ?_,Nat.lt_succ_self _⟩
  ·cbv;all_goals exact⟨⟨_,rfl,rfl⟩,⟨_,rfl,rfl⟩,⟨_,rfl,rfl⟩,⟨_,rfl,rfl⟩,⟨_,rfl,rfl⟩,⟨_,rfl,rfl⟩,⟨_,rfl,rfl⟩,⟨_,rfl,rfl⟩,trivial⟩
  cbv;all_goals exact⟨⟨_,rfl,_,rfl,rfl,rfl,rfl,trivial⟩,⟨_,rfl,rfl⟩,⟨_,rfl,rfl⟩,trivial⟩
 rintro y1 hy1;replace hy1:=hy1.symm;subst hy1;try dsimp only[lr,lrL,lrp,aP] at h
 cbv;obtain rfl:=Option.some.inj h;exact ARet.mk ⟨rfl,(al hg ht _)⟩ hX.symm
def ir54:J:=js [jq 5 (.box 0),jq 10 (.mv (.k (.c (.n 1))))] [1,2,3,4,5] (js [jq 14 (.bsl 1 []),jm 11 14] [1,2,3,4,5,11] (js [jl 15 3 5,jc 16 78 [15],jm 12 16] [1,2,3,4,5,11,12] (.seq (js [jm 13 (ki 0)] [1,2,3,4,5,11,12,13] (.bl 0 (.seq (js [jm 17 13,jm 18 12,jq 19 (.len false 18),jb 20 .lss .i 17 19] [1,2,3,4,5,11,12,13,20] (.cond 20 .skip (.exit 0))) (.seq (.block 1 (.seq (.reg (some [[],[],[],[],[],[],[4,5],[4,5,6],[0,1,2,3,4,5,6,7],[0,1,2,3,4,5,6,7,8],[0,1,2,3,4,5,6,7,8,9],[0,1,2,3,4,5,6,7,8,9],[0,1,2,3,4,5,6,7,8,9],[0,1,2,3,4,5,6,7,8,9],[0,1,2,3,4,5,6,7,8,9],[0,1,2,3,4,5,6,7,8,9],[0,1,2,3,4,5,6,7,8,9,14,15],[0,1,2,3,4,5,6,7,8,9,14,15,16],[0,1,2,3,4,5,6,7,8,9,10,11,12,13,14,15,16,17],[0,1,2,3,4,5,6,7,8,9,10,11,12,13,14,15,16,17,18]]) [jl 23 3 5,jm 24 1,jm 25 2,jm 26 4,jm 27 12,jm 28 13,ja 29 1 27 28,jk 30 29,jc 31 42 [23,24,25,26,30],jm 32 31,ju 33 32 (.ld true 3 5),ju 34 32 (.mv 1),ju 35 32 (.mv 3),ju 36 32 (.mv 4),ju 37 32 (.mv 12),ju 38 32 (.mv 13),ju 39 32 (.ia 1 37 38),ju 40 32 (.ld false 1 39),ju 41 32 (.call 42 true [33,34,35,36,40]),jq 42 (.pick 32 41 kf)] [1,2,3,4,5,11,12,13,42]) (.cond 42 (.reg none [jm 43 11,jm 44 12,jm 45 13,ja 46 1 44 45,jk 47 46,jq 48 (.bsl 1 [47]),jq 49 (.app 1 16 true 43 48),jm 11 49] [1,2,3,4,5,11,12,13]) .skip))) (.reg none [jm 21 13,jb 22 .add .i 21 (ki 1),jm 13 22] [1,2,3,4,5,11,12,13]))))) (js [jm 50 11,jm 10 50] [10] .ret))))
def rv54:List RV:=[.t 10]
def ei (g:G) (t:TE) (a0:Network) (a1:List Scan) (a2:Int) (a3:Int) (a4:Int) (x1:List ByteArray):Nat→Int→List ByteArray→Option (List ByteArray)
 |0,v1,w1=>
  some w1
 |n1+1,v1,w1=>
  gt x1 (g.nat v1) fun x2=>
  cl (g8 g t a0 a1 a2 a4 x2) fun x3=>
  br x3
  (
   cl (g8 g t a0 a1 a3 a4 x2) fun x4=>
   br x4
   (
    lP ([x2]) fun(l2:List ByteArray)=>
    gd (((w1.length+l2.length)*16≤70368744177664))<|
    lP (w1++l2) fun(l3:List ByteArray)=>
    ei g t a0 a1 a2 a3 a4 x1 n1 (g.wrap .i64 (g.add v1 1)) l3)
   (
    ei g t a0 a1 a2 a3 a4 x1 n1 (g.wrap .i64 (g.add v1 1)) w1))
  (
   ei g t a0 a1 a2 a3 a4 x1 n1 (g.wrap .i64 (g.add v1 1)) w1)
def o9 (g:G) (t:TE) (a0:Network) (a1:List Scan) (a2:Int) (a3:Int) (a4:Int):Option (List ByteArray):=
 lP ([]) fun(l1:List ByteArray)=>
 cl (dH g t a0) fun x1=>
 gd (((g.int (g.dlen (t.d_S x1)))≤9223372036854775807))<|
 cl (ei g t a0 a1 a2 a3 a4 x1 (aq 0 (g.int (g.dlen (t.d_S x1)))) 0 l1) fun y1=>
 some y1
theorem AX {g:G} {t:TE} {a0:Network} {a1:List Scan} {a2:Int} {a3:Int} {a4:Int} {r:List ByteArray} (hg:g=G.real) (ht:t=TE.real) (h:o9 g t a0 a1 a2 a3 a4=some r):Fn Tryz.prog 54 [.g (Network.rs t a0),.c (.s 6 (t.r_Scan a1)),.c (.v (.int .i64 a2)),.c (.v (.int .i64 a3)),.c (.v (.int .i64 a4))] (.c (.o 1 (t.d_S r))):=by
 obtain⟨X,hX⟩:=aE (.c (.o 1 (t.d_S r)):X);rw[←hX];refine au (rvs:=rv54) (j:=ir54) Tryz.func54 rfl (by kernel_rfl) (nb rfl) (by kernel_rfl) ae ?_;intro g2 F hg2 hF;obtain rfl:g2=g:=hg2.unique.trans hg.symm;clear hg2;obtain⟨wrap,lt,_,_,_,_,_,_,_,_,_,_,int,add,_,_,_,_,_,_,_,_,_,_,dlen⟩:=g2;obtain⟨r_Leg,_,r_I64,_,r_Scan,_,_,d_S⟩:=t
 obtain⟨a0_Legs,a0_Off,a0_Change⟩:=a0;unfold o9 at h;try dsimp only at h
 cbv;obtain⟨l1,hl1,h⟩:=ak h;try dsimp only at h
 refine ANew.mk (d_S l1) (dlen (d_S l1)) (by rw[←hl1];exact gY hg ht []) (by rw[←hl1];exact fm hg ht []) ?_;cbv;obtain⟨x1,hx1,h⟩:=ac h;try dsimp only at h
 refine ACall.mk _ _ rfl (hF _ _ _ (eT hg ht hx1)) (.inl rfl) (nb rfl) ?_;cbv;obtain⟨hB1,h⟩:=ah h;obtain⟨o1,ho1,h⟩:=ac h;try dsimp only at h
 try rw[hg] at ho1
 try rw[ht] at ho1
 refine ABL.mk {p:Nat×Int×List ByteArray//p.1=aq p.2.1 (int (dlen (d_S x1)))∧0≤p.2.1∧ei G.real TE.real (Network.mk a0_Legs a0_Off a0_Change) a1 a2 a3 a4 x1 p.1 p.2.1 p.2.2=some o1} (fun⟨⟨n1,v1,w1⟩,_⟩=>({sl:=[(1,.c (.r (.s 6 (r_Scan a1)))),(2,.c (.r (.v (.int .i64 a2)))),(3,.c (.r (.v (.int .i64 a3)))),(4,.c (.r (.v (.int .i64 a4)))),(5,.c (.p 0 3 0 0)),(11,.c (.f 1 1 0 (dlen (d_S w1)))),(12,.c (.f 2 1 0 (dlen (d_S x1)))),(13,.c (.r (.v (.int .i64 v1))))],tab:=[(0,some (.foc 3 [] [.r (.s 6 (r_Leg a0_Legs)),.r (.s 1 (r_I64 a0_Off)),.r (.v (.int .i64 a0_Change))] [])),(1,some (.arr 1 (d_S w1))),(2,some (.arr 1 (d_S x1)))]}:St)) 3 (fun p=>p.1.1) ⟨(aq 0 (int (dlen (d_S x1))),0,l1),rfl,Int.le_refl _,ho1⟩ (List ByteArray) (fun y1=>({sl:=[(11,.c (.f 0 1 0 (dlen (d_S y1))))],tab:=[(0,some (.arr 1 (d_S y1)))]}:St)) 1 (fun y=>o1=y) ?_ ?_ ?_
 ·refine Wk.of [(0,some 0),(1,some 32),(2,some 80)] rfl rfl ?_ ?_
  ·cbv;all_goals exact⟨⟨_,rfl,rfl⟩,⟨_,rfl,rfl⟩,⟨_,rfl,rfl⟩,⟨_,rfl,rfl⟩,⟨_,rfl,rfl⟩,⟨_,rfl,rfl⟩,⟨_,rfl,rfl⟩,⟨_,rfl,rfl⟩,trivial⟩
  cbv;all_goals exact⟨⟨_,rfl,_,rfl,rfl,rfl,rfl,trivial⟩,⟨_,rfl,rfl⟩,⟨_,rfl,rfl⟩,trivial⟩
 ·rintro⟨⟨n1,v1,w1⟩,hn1,hi1,h_1⟩ hq1;try dsimp only at hn1 hi1 h_1
  clear hq1;cbv;rcases n1 with _|n1
  ·have hb1:lt v1 (int (dlen (d_S x1)))=false:=be hg hn1;rw[ei] at h_1;try rw[←hg] at h_1
   try rw[←ht] at h_1
   try dsimp only at h_1
   rw[hb1];cbv;refine⟨w1,Wk.of [(0,some 1)] rfl rfl ?_ ?_,(Option.some.inj h_1).symm⟩
   ·cbv;all_goals exact⟨⟨_,rfl,rfl⟩,trivial⟩
   cbv;all_goals exact⟨⟨_,rfl,rfl⟩,trivial⟩
  have hb1:lt v1 (int (dlen (d_S x1)))=true:=bF hg hn1;have hl1:=dM hn1;have hs1:=cF hg hn1 hi1 hB1 (by decide);rw[ei] at h_1;try rw[←hg] at h_1
  try rw[←ht] at h_1
  try dsimp only at h_1
  rw[hb1];cbv;refine AStep.mk (dB hg hi1 hl1) ?_;cbv;obtain⟨x2,hx2,h_1⟩:=aB h_1;try dsimp only at h_1
  refine AGet.mk _ (fW hg ht hx2) ?_;cbv;obtain⟨x3,hx3,h_1⟩:=ac h_1;try dsimp only at h_1
  refine ACall.mk _ _ rfl (hF _ _ _ (mt hg ht hx3)) (.inl rfl) (nb rfl) ?_;cbv
  cases hb2:x3
  ·rw[aa hb2] at h_1;cbv;iterate 9 try(rw[hb2];cbv)
   try rw[hg] at h_1
   try rw[ht] at h_1
   refine⟨⟨(n1,(wrap .i64 (add v1 1)),w1),hs1.1,hs1.2,h_1⟩,Wk.of [(0,some 0),(1,some 1),(2,some 2)] rfl rfl ?_ ?_,Nat.lt_succ_self _⟩
   ·cbv;all_goals exact⟨⟨_,rfl,rfl⟩,⟨_,rfl,rfl⟩,⟨_,rfl,rfl⟩,⟨_,rfl,rfl⟩,⟨_,rfl,rfl⟩,⟨_,rfl,rfl⟩,⟨_,rfl,rfl⟩,⟨_,rfl,rfl⟩,trivial⟩
   cbv;all_goals exact⟨⟨_,rfl,_,rfl,rfl,rfl,rfl,trivial⟩,⟨_,rfl,rfl⟩,⟨_,rfl,rfl⟩,trivial⟩
  rw[ab hb2] at h_1;cbv;iterate 6 try(rw[hb2];cbv)
  refine AStep.mk (dB hg hi1 hl1) ?_;cbv;try(rw[hb2];cbv)
  refine AGet.mk _ (fW hg ht hx2) ?_;cbv;try(rw[hb2];cbv)
  obtain⟨x4,hx4,h_1⟩:=ac h_1;try dsimp only at h_1
  refine ACall.mk _ _ rfl (hF _ _ _ (mt hg ht hx4)) (.inl rfl) (nb rfl) ?_;cbv;try(rw[hb2];cbv)
  cases hb3:x4
  ·rw[aa hb3] at h_1;cbv;try rw[hg] at h_1
   try rw[ht] at h_1
   refine⟨⟨(n1,(wrap .i64 (add v1 1)),w1),hs1.1,hs1.2,h_1⟩,Wk.of [(0,some 0),(1,some 1),(2,some 2)] rfl rfl ?_ ?_,Nat.lt_succ_self _⟩
   ·cbv;all_goals exact⟨⟨_,rfl,rfl⟩,⟨_,rfl,rfl⟩,⟨_,rfl,rfl⟩,⟨_,rfl,rfl⟩,⟨_,rfl,rfl⟩,⟨_,rfl,rfl⟩,⟨_,rfl,rfl⟩,⟨_,rfl,rfl⟩,trivial⟩
   cbv;all_goals exact⟨⟨_,rfl,_,rfl,rfl,rfl,rfl,trivial⟩,⟨_,rfl,rfl⟩,⟨_,rfl,rfl⟩,trivial⟩
  rw[ab hb3] at h_1;cbv;refine AStep.mk (dB hg hi1 hl1) ?_;cbv;refine AGet.mk _ (fW hg ht hx2) ?_;cbv;obtain⟨l2,hl2,h_1⟩:=ak h_1;try dsimp only at h_1
  refine ANew.mk (d_S l2) (dlen (d_S l2)) (by rw[←hl2];exact gY hg ht [x2]) (by rw[←hl2];exact fm hg ht [x2]) ?_;cbv;obtain⟨hc1,h_1⟩:=ah h_1;refine AStep.mk ⟨⟨rfl,(al hg ht _)⟩,(cU hg ht (al hg ht _) rfl hc1)⟩ ?_;cbv;obtain⟨l3,hl3,h_1⟩:=ak h_1;try dsimp only at h_1
  refine ANew.mk (d_S l3) (dlen (d_S l3)) (by rw[←hl3];exact iO hg ht (al hg ht _) rfl) (by rw[←hl3];exact fA hg ht (al hg ht _) rfl) ?_;cbv;try rw[hg] at h_1
  try rw[ht] at h_1
  refine⟨⟨(n1,(wrap .i64 (add v1 1)),l3),hs1.1,hs1.2,h_1⟩,Wk.of [(0,some 0),(1,some 483),(2,some 2)] rfl rfl ?_ ?_,Nat.lt_succ_self _⟩
  ·cbv;all_goals exact⟨⟨_,rfl,rfl⟩,⟨_,rfl,rfl⟩,⟨_,rfl,rfl⟩,⟨_,rfl,rfl⟩,⟨_,rfl,rfl⟩,⟨_,rfl,rfl⟩,⟨_,rfl,rfl⟩,⟨_,rfl,rfl⟩,trivial⟩
  cbv;all_goals exact⟨⟨_,rfl,_,rfl,rfl,rfl,rfl,trivial⟩,⟨_,rfl,rfl⟩,⟨_,rfl,rfl⟩,trivial⟩
 rintro y1 hy1;replace hy1:=hy1.symm;subst hy1;try dsimp only[lr,lrL,lrp,aP] at h
 cbv;obtain rfl:=Option.some.inj h;exact ARet.mk ⟨rfl,(al hg ht _)⟩ hX.symm
end Go.Vs
