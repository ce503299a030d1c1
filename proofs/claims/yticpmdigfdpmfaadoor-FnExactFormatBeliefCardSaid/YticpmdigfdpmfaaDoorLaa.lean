/- Part of the proofs of this seat's laws: Laa. No condition. -/
import Derived.Test.YticpmdigfdpmfaaDoorTy
import Derived.Test.YticpmdigfdpmfaaDoorTIRall
import Derived.Test.YticpmdigfdpmfaaDoorVg
import Derived.Lib.Join
import Derived.Lib.AppendIntMem
import Derived.Test.YticpmdigfdpmfaaDoorProg
import Derived.Shelf.Lay
import Derived.Shelf.Strconv.Itoa3
import Derived.KernelRfl
import Derived.Shelf.Strings.OnBuilder
set_option linter.unusedVariables false
set_option linter.unusedSimpArgs false
set_option linter.unusedSectionVars false
namespace Go.Vs
set_option maxRecDepth 100000
def ir9:J:=js [jm 4 (ki 0)] [0,1] (js [jm 6 1,jm 7 0,jq 8 (.len false 7),jb 9 .sub .i 6 8,jm 1 9] [0,1] (.seq (js [jm 10 1,jb 11 .lss .i 10 (ki 0)] [0,1,11] (.cond 11 (js [jq 4 (.mv (.k (V.i (-1))))] [4] .ret) .skip)) (.seq (js [jm 5 (ki 0)] [0,1,5] (.bl 0 (.seq (js [jm 12 5,jm 13 0,jq 14 (.len false 13),jb 15 .lss .i 12 14] [0,1,5,15] (.cond 15 .skip (.exit 0))) (.seq (.block 1 (js [jm 18 1,jm 19 0,jm 20 5,ja 21 1 19 20,jk 22 21,jq 23 (.len true 22),jb 24 .sub .i 18 23,jm 1 24] [0,1,5] (js [jm 25 1,jb 26 .lss .i 25 (ki 0)] [0,1,5,26] (.cond 26 (js [jq 4 (.mv (.k (V.i (-1))))] [4] .ret) .skip)))) (.reg none [jm 16 5,jb 17 .add .i 16 (ki 1),jm 5 17] [0,1,5]))))) (js [jm 27 1,jm 4 27] [4] .ret))))
def rv9:List RV:=[.t 4]
open Go.Proofs Go.IntWalk
set_option linter.unusedVariables false
set_option maxHeartbeats 4000000
def aR (g:G) (t:TE):List ByteArray→Int→LR Int Int
 |[],v1=>
  (LR.out v1)
 |z1::ls1,v1=>
  br (g.lt (g.wrap .i64 (g.sub v1 (g.int (g.slen z1)))) 0)
  (
   (LR.ret (-1)))
  (
   aR g t ls1 (g.wrap .i64 (g.sub v1 (g.int (g.slen z1)))))
def cm (g:G) (t:TE) (a0:List ByteArray) (a1:Int):Int:=
 br (g.lt (g.wrap .i64 (g.sub a1 (g.llen (t.r_S a0)))) 0)
 (
  (-1))
 (
  lP (aR g t a0 (g.wrap .i64 (g.sub a1 (g.llen (t.r_S a0))))) fun o1=>lrp o1 fun y1=>
  y1)
theorem iM {g:G} {t:TE} {a0:List ByteArray} {a1:Int} {r:Int} (hg:g=G.real) (ht:t=TE.real) (h:cm g t a0 a1=r):Fn Tryd.prog 9 [.c (.s 1 (t.r_S a0)),.c (.v (.int .i64 a1))] (.c (.r (.v (.int .i64 r)))):=by
 obtain⟨X,hX⟩:=d7 (.c (.r (.v (.int .i64 r))):X);rw[←hX];refine cw (rvs:=rv9) (j:=ir9) Tryd.func9 rfl (by kernel_rfl) (nb rfl) (by kernel_rfl) aq ?_;intro g2 F hg2 hF;obtain rfl:g2=g:=hg2.unique.trans hg.symm;clear hg2;obtain⟨wrap,lt,_,_,_,_,_,_,_,_,_,_,int,add,sub,_,_,_,_,_,_,llen,_,_,_,_,_,_,_,_,_,_,_,_,_,slen⟩:=g2;obtain⟨r_S⟩:=t;unfold cm at h;try dsimp only at h
 cbv
 cases hb1:(lt (wrap .i64 (sub a1 (llen (r_S a0)))) 0)
 rotate_left
 ·rw[aJ hb1] at h;cbv;subst h;exact ARet.mk trivial hX.symm
 rw[aw hb1] at h;cbv;obtain⟨o1,ho1,h⟩:=cI h;try dsimp only at h
 try rw[hg] at ho1
 try rw[ht] at ho1
 refine ABL.mk {p:Nat×Int×Int//p.1≤a0.length∧p.2.1=((p.1:Nat):Int)∧aR G.real TE.real (List.drop p.1 a0) p.2.2=o1} (fun⟨⟨k1,v2,v1⟩,_⟩=>({sl:=[(0,.c (.r (.s 1 (r_S a0)))),(1,.c (.r (.v (.int .i64 v1)))),(5,.c (.r (.v (.int .i64 v2))))],tab:=[]}:St)) 0 (fun p=>a0.length-p.1.1) ⟨(0,0,(wrap .i64 (sub a1 (llen (r_S a0))))),Nat.zero_le _,rfl,ho1⟩ (Int) (fun y1=>({sl:=[(1,.c (.r (.v (.int .i64 y1))))],tab:=[]}:St)) 0 (fun y=>o1=LR.out y) ?_ ?_ ?_
 ·refine Wk.of [] rfl rfl ?_ ?_
  ·cbv;all_goals exact⟨⟨_,rfl,rfl⟩,⟨_,rfl,rfl⟩,⟨_,rfl,rfl⟩,trivial⟩
  cbv;all_goals exact trivial
 ·rintro⟨⟨k1,v2,v1⟩,hk1,hi1,h_1⟩ hq1;have hm1:=(hq1.1 0 _ _ rfl);try dsimp only at hk1 hi1 h_1
  clear hq1;cbv
  by_cases hc1_:k1<a0.length
  ·have hb2:lt v2 (llen (r_S a0))=true:=dT hg ht hi1 hc1_;have hs1:=gK hg ht hi1 hc1_ hm1;obtain⟨z1,hz1⟩:=bw hc1_;rw[a7 hz1] at h_1;rw[aR] at h_1;try rw[←hg] at h_1
   try rw[←ht] at h_1
   try dsimp only at h_1
   rw[hb2];cbv;refine AStep.mk (hZ hi1) ?_;cbv;refine AGet.mk _ (e7 hg ht hi1 hz1) ?_;cbv
   cases hb3:(lt (wrap .i64 (sub v1 (int (slen z1)))) 0)
   rotate_left
   ·rw[aJ hb3] at h_1;cbv;subst h_1;try dsimp only[lr,lrL,lrp,fD] at h
    subst h;exact ARet.mk trivial hX.symm
   rw[aw hb3] at h_1;cbv;try rw[hg] at h_1
   try rw[ht] at h_1
   refine⟨⟨(k1+1,(wrap .i64 (add v2 1)),(wrap .i64 (sub v1 (int (slen z1))))),hc1_,hs1,h_1⟩,Wk.of [] rfl rfl ?_ ?_,d8 hc1_⟩
   ·cbv;all_goals exact⟨⟨_,rfl,rfl⟩,⟨_,rfl,rfl⟩,⟨_,rfl,rfl⟩,trivial⟩
   cbv;all_goals exact trivial
  have hb2:lt v2 (llen (r_S a0))=false:=c8 hg ht hi1 hc1_;rw[List.drop_of_length_le (Nat.le_of_not_lt hc1_)] at h_1;rw[aR] at h_1;try rw[←hg] at h_1
  try rw[←ht] at h_1
  try dsimp only at h_1
  rw[hb2];cbv;refine⟨v1,Wk.of [] rfl rfl ?_ ?_,h_1.symm⟩
  ·cbv;all_goals exact⟨⟨_,rfl,rfl⟩,trivial⟩
  cbv;all_goals exact trivial
 rintro y1 hy1;replace hy1:=hy1.symm;subst hy1;try dsimp only[lr,lrL,lrp,fD] at h
 cbv;subst h;exact ARet.mk trivial hX.symm
def ir10:J:=js [jm 4 (ki 0)] [0,1] (js [jm 5 1,jm 6 0,jq 7 (.len false 6),jb 8 .sub .i 5 7,jm 1 8] [1] (.seq (js [jm 9 1,jb 10 .lss .i 9 (ki 0)] [1,10] (.cond 10 (js [jq 4 (.mv (.k (V.i (-1))))] [4] .ret) .skip)) (js [jm 11 1,jm 4 11] [4] .ret)))
def rv10:List RV:=[.t 4]
def dw (g:G) (t:TE) (a0:List Trip) (a1:Int):Int:=
 br (g.lt (g.wrap .i64 (g.sub a1 (g.llen (t.r_Trip a0)))) 0)
 (
  (-1))
 (
  (g.wrap .i64 (g.sub a1 (g.llen (t.r_Trip a0)))))
theorem ln {g:G} {t:TE} {a0:List Trip} {a1:Int} {r:Int} (hg:g=G.real) (ht:t=TE.real) (h:dw g t a0 a1=r):Fn Tryd.prog 10 [.c (.s 2 (t.r_Trip a0)),.c (.v (.int .i64 a1))] (.c (.r (.v (.int .i64 r)))):=by
 obtain⟨X,hX⟩:=d7 (.c (.r (.v (.int .i64 r))):X);rw[←hX];refine cw (rvs:=rv10) (j:=ir10) Tryd.func10 rfl (by kernel_rfl) (nb rfl) (by kernel_rfl) aq ?_;intro g2 F hg2 hF;obtain rfl:g2=g:=hg2.unique.trans hg.symm;clear hg2;obtain⟨wrap,lt,_,_,_,_,_,_,_,_,_,_,_,_,sub,_,_,_,_,_,_,llen⟩:=g2;obtain⟨_,_,r_Trip⟩:=t;unfold dw at h;try dsimp only at h
 cbv
 cases hb1:(lt (wrap .i64 (sub a1 (llen (r_Trip a0)))) 0)
 rotate_left
 ·rw[aJ hb1] at h;cbv;subst h;exact ARet.mk trivial hX.symm
 rw[aw hb1] at h;cbv;subst h;exact ARet.mk trivial hX.symm
def ir4:J:=js [jq 2 (.box 0),jm 4 (ki 0)] [1,2] (js [jf 5 0 2,jk 6 5,jm 7 1,jc 8 9 [6,7],jm 1 8] [1,2] (.seq (js [jm 9 1,jb 10 .lss .i 9 (ki 0)] [1,2,10] (.cond 10 (js [jq 4 (.mv (.k (V.i (-1))))] [4] .ret) .skip)) (js [jf 11 1 2,jk 12 11,jm 13 1,jc 14 10 [12,13],jm 1 14] [1] (.seq (js [jm 15 1,jb 16 .lss .i 15 (ki 0)] [1,16] (.cond 16 (js [jq 4 (.mv (.k (V.i (-1))))] [4] .ret) .skip)) (js [jm 17 1,jm 4 17] [4] .ret)))))
def rv4:List RV:=[.t 4]
def cW (g:G) (t:TE) (a0:Belief) (a1:Int):Int:=
 lP (cm g t a0.Places a1) fun x1=>
 br (g.lt x1 0)
 (
  (-1))
 (
  lP (dw g t a0.Rides x1) fun x2=>
  br (g.lt x2 0)
  (
   (-1))
  (
   x2))
theorem kg {g:G} {t:TE} {a0:Belief} {a1:Int} {r:Int} (hg:g=G.real) (ht:t=TE.real) (h:cW g t a0 a1=r):Fn Tryd.prog 4 [.g (Belief.rs t a0),.c (.v (.int .i64 a1))] (.c (.r (.v (.int .i64 r)))):=by
 obtain⟨X,hX⟩:=d7 (.c (.r (.v (.int .i64 r))):X);rw[←hX];refine cw (rvs:=rv4) (j:=ir4) Tryd.func4 rfl (by kernel_rfl) (nb rfl) (by kernel_rfl) aq ?_;intro g2 F hg2 hF;obtain rfl:g2=g:=hg2.unique.trans hg.symm;clear hg2;obtain⟨_,lt⟩:=g2;obtain⟨_⟩:=t;obtain⟨a0_Places,a0_Rides⟩:=a0;unfold cW at h
 try dsimp only at h
 cbv;obtain⟨x1,hx1,h⟩:=cI h;try dsimp only at h
 refine ACall.mk _ _ rfl (hF _ _ _ (iM hg ht hx1)) (.inl rfl) (nb rfl) ?_;cbv
 cases hb1:(lt x1 0)
 rotate_left
 ·rw[aJ hb1] at h;cbv;subst h;exact ARet.mk trivial hX.symm
 rw[aw hb1] at h;cbv;obtain⟨x2,hx2,h⟩:=cI h;try dsimp only at h
 refine ACall.mk _ _ rfl (hF _ _ _ (ln hg ht hx2)) (.inl rfl) (nb rfl) ?_;cbv
 cases hb2:(lt x2 0)
 rotate_left
 ·rw[aJ hb2] at h;cbv;subst h;exact ARet.mk trivial hX.symm
 rw[aw hb2] at h;cbv;subst h;exact ARet.mk trivial hX.symm
def ir11 (s_k0 s_k1 s_k2:ByteArray):J:=js [jq 2 (.mv (.k (.c (.r (.v (.string s_k0))))))] [0] (.seq (js [jm 6 0,jb 7 .eql .i 6 (ki 0)] [0,7] (.cond 7 (js [jq 2 (.mv (.k (.c (.r (.v (.string s_k1))))))] [2] .ret) .skip)) (js [jq 3 (.mv (.k (.c (.r (.v (.string s_k0))))))] [0,3] (.seq (js [jm 8 0,jm 4 8] [0,3,4] (.bl 0 (.seq (js [jm 9 4,jb 10 .neq .i 9 (ki 0)] [0,3,4,10] (.cond 10 .skip (.exit 0))) (.seq (.block 1 (js [jm 13 4,jb 14 .rem .i 13 (ki 10),jm 5 14] [0,3,4,5] (.seq (js [jm 15 5,jb 16 .lss .i 15 (ki 0)] [0,3,4,5,16] (.cond 16 (.reg none [jm 17 5,jq 18 (.neg 17),jm 5 18] [0,3,4,5]) .skip)) (.reg none [jm 19 5,jb 20 .add .i (ki 48) 19,jq 21 (.cvt .u8 20),jq 22 (.bsl 1 [21]),jq 23 (.b2s 22),jm 24 3,jb 25 .add .s 23 24,jm 3 25] [0,3,4])))) (.reg none [jm 11 4,jb 12 .quo .i 11 (ki 10),jm 4 12] [0,3,4]))))) (.seq (js [jm 26 0,jb 27 .lss .i 26 (ki 0)] [3,27] (.cond 27 (js [jm 28 3,jq 29 (.bin .add .s (.k (.c (.r (.v (.string s_k2))))) 28),jm 2 29] [2] .ret) .skip)) (js [jm 30 3,jm 2 30] [2] .ret)))))
def rv11:List RV:=[.t 2]
def au (g:G) (t:TE):Nat→ByteArray→Int→Option ByteArray
 |0,_,_=>none
 |n1+1,v1,v2=>
  br (g.eq v2 0)
  (
   some v1)
  (
   br (g.lt (g.rem v2 10) 0)
   (
    lP ([(g.wrap .u8 (g.wrap .i64 (g.add 48 (g.wrap .i64 (g.sub 0 (g.rem v2 10))))))]) fun(l1:List Int)=>
    gd (((g.bstr l1).size+v1.size≤70368744177664))<|
    au g t n1 (g.cat (g.bstr l1) v1) (g.wrap .i64 (g.quo v2 10)))
   (
    lP ([(g.wrap .u8 (g.wrap .i64 (g.add 48 (g.rem v2 10))))]) fun(l2:List Int)=>
    gd (((g.bstr l2).size+v1.size≤70368744177664))<|
    au g t n1 (g.cat (g.bstr l2) v1) (g.wrap .i64 (g.quo v2 10))))
def bM (g:G) (t:TE) (a0:Int):Option ByteArray:=
 br (g.eq a0 0)
 (
  some l6)
 (
  cl (au g t 1000000000 bI a0) fun y1=>
  br (g.lt a0 0)
  (
   gd ((gY.size+y1.size≤70368744177664))<|
   some (g.cat gY y1))
  (
   some y1))
theorem eu {g:G} {t:TE} {a0:Int} {r:ByteArray} (hg:g=G.real) (ht:t=TE.real) (h:bM g t a0=some r):Fn Tryd.prog 11 [.c (.v (.int .i64 a0))] (.c (.r (.v (.string r)))):=by
 obtain⟨X,hX⟩:=d7 (.c (.r (.v (.string r))):X);rw[←hX];refine cw (rvs:=rv11) (j:=(ir11 bI l6 gY)) Tryd.func11 rfl (by kernel_rfl) (nb rfl) (by kernel_rfl) aq ?_;intro g2 F hg2 hF;obtain rfl:g2=g:=hg2.unique.trans hg.symm;clear hg2;obtain⟨wrap,lt,_,eq,quo,rem,_,_,_,_,_,_,_,add,sub,_,cat,_,_,_,_,_,_,_,dlen,_,_,_,rd,_,_,_,_,_,_,_,_,_,_,_,_,_,_,bstr⟩:=g2;obtain⟨_,_,_,_,r_U8,d_U8⟩:=t;unfold bM at h
 try dsimp only at h
 obtain⟨s_k0,hs_k0⟩:∃s,bI=s:=⟨_,rfl⟩;try rw[hs_k0] at h
 rw[hs_k0];obtain⟨s_k1,hs_k1⟩:∃s,l6=s:=⟨_,rfl⟩;try rw[hs_k1] at h
 rw[hs_k1];obtain⟨s_k2,hs_k2⟩:∃s,gY=s:=⟨_,rfl⟩;try rw[hs_k2] at h
 rw[hs_k2];cbv
 cases hb1:(eq a0 0)
 rotate_left
 ·rw[aJ hb1] at h;cbv;obtain rfl:=Option.some.inj h;exact ARet.mk trivial hX.symm
 rw[aw hb1] at h;cbv;obtain⟨o1,ho1,h⟩:=bp h;try dsimp only at h
 try rw[hg] at ho1
 try rw[ht] at ho1
 refine ABL.mk {p:Nat×ByteArray×Int//au G.real TE.real p.1 p.2.1 p.2.2=some o1} (fun⟨⟨n1,v1,v2⟩,_⟩=>({sl:=[(0,.c (.r (.v (.int .i64 a0)))),(3,.c (.r (.v (.string v1)))),(4,.c (.r (.v (.int .i64 v2))))],tab:=[]}:St)) 0 (fun p=>p.1.1) ⟨(1000000000,s_k0,a0),ho1⟩ (ByteArray) (fun y1=>({sl:=[(0,.c (.r (.v (.int .i64 a0)))),(3,.c (.r (.v (.string y1))))],tab:=[]}:St)) 0 (fun y=>o1=y) ?_ ?_ ?_
 ·refine Wk.of [] rfl rfl ?_ ?_
  ·cbv;all_goals exact⟨⟨_,rfl,rfl⟩,⟨_,rfl,rfl⟩,⟨_,rfl,rfl⟩,trivial⟩
  cbv;all_goals exact trivial
 ·rintro⟨⟨n1,v1,v2⟩,h_1⟩ hq1;try dsimp only at h_1
  clear hq1;rcases n1 with _|n1
  ·rw[au] at h_1;cases h_1
  rw[au] at h_1;try rw[←hg] at h_1
  try rw[←ht] at h_1
  try dsimp only at h_1
  try rw[hs_k0] at h_1
  try rw[hs_k1] at h_1
  try rw[hs_k2] at h_1
  cbv
  cases hb2:(eq v2 0)
  rotate_left
  ·rw[aJ hb2] at h_1;cbv;refine⟨v1,Wk.of [] rfl rfl ?_ ?_,(Option.some.inj h_1).symm⟩
   ·cbv;all_goals exact⟨⟨_,rfl,rfl⟩,⟨_,rfl,rfl⟩,trivial⟩
   cbv;all_goals exact trivial
  rw[aw hb2] at h_1;cbv;refine AStep.mk (by decide) ?_;cbv
  cases hb3:(lt (rem v2 10) 0)
  ·rw[aw hb3] at h_1;cbv;obtain⟨l2,hl2,h_1⟩:=cI h_1;try dsimp only at h_1
   refine ANew.mk (d_U8 l2) (dlen (d_U8 l2)) (by rw[←hl2];exact pt hg ht [(wrap .u8 (wrap .i64 (add 48 (rem v2 10))))]) (by rw[←hl2];exact mE hg ht [(wrap .u8 (wrap .i64 (add 48 (rem v2 10))))]) ?_;cbv;refine AStep.mk (mT ht (gF hg ht _)) ?_;cbv;refine AB2.mk l2 (by rw[show rd (d_U8 l2) 0 (dlen (d_U8 l2))=r_U8 l2 from oZ hg ht (gF hg ht _)];exact ow ht _) ?_;cbv;obtain⟨hc2,h_1⟩:=bO h_1;refine AStep.mk (cU hc2) ?_;cbv;refine AStep.mk (by decide) ?_;cbv;try rw[hg] at h_1
   try rw[ht] at h_1
   refine⟨⟨(n1,(cat (bstr l2) v1),(wrap .i64 (quo v2 10))),h_1⟩,Wk.of [] rfl rfl ?_ ?_,Nat.lt_succ_self _⟩
   ·cbv;all_goals exact⟨⟨_,rfl,rfl⟩,⟨_,rfl,rfl⟩,⟨_,rfl,rfl⟩,trivial⟩
   cbv;all_goals exact trivial
  rw[aJ hb3] at h_1;cbv;obtain⟨l1,hl1,h_1⟩:=cI h_1;try dsimp only at h_1
  refine ANew.mk (d_U8 l1) (dlen (d_U8 l1)) (by rw[←hl1];exact pt hg ht [(wrap .u8 (wrap .i64 (add 48 (wrap .i64 (sub 0 (rem v2 10))))))]) (by rw[←hl1];exact mE hg ht [(wrap .u8 (wrap .i64 (add 48 (wrap .i64 (sub 0 (rem v2 10))))))]) ?_;cbv;refine AStep.mk (mT ht (gF hg ht _)) ?_;cbv;refine AB2.mk l1 (by rw[show rd (d_U8 l1) 0 (dlen (d_U8 l1))=r_U8 l1 from oZ hg ht (gF hg ht _)];exact ow ht _) ?_;cbv;obtain⟨hc1,h_1⟩:=bO h_1;refine AStep.mk (cU hc1) ?_;cbv;refine AStep.mk (by decide) ?_;cbv;try rw[hg] at h_1
  try rw[ht] at h_1
  refine⟨⟨(n1,(cat (bstr l1) v1),(wrap .i64 (quo v2 10))),h_1⟩,Wk.of [] rfl rfl ?_ ?_,Nat.lt_succ_self _⟩
  ·cbv;all_goals exact⟨⟨_,rfl,rfl⟩,⟨_,rfl,rfl⟩,⟨_,rfl,rfl⟩,trivial⟩
  cbv;all_goals exact trivial
 rintro y1 hy1;replace hy1:=hy1.symm;subst hy1;try dsimp only[lr,lrL,lrp,fD] at h
 cbv
 cases hb4:(lt a0 0)
 ·rw[aw hb4] at h;cbv;obtain rfl:=Option.some.inj h;exact ARet.mk trivial hX.symm
 rw[aJ hb4] at h;cbv;obtain⟨hc3,h⟩:=bO h;refine AStep.mk (cU hc3) ?_;cbv;obtain rfl:=Option.some.inj h;exact ARet.mk trivial hX.symm
def ir5 (s_k0 s_k3 s_k4 s_k5:ByteArray):J:=js [jq 1 (.box 0),jq 2 (.mv (.k (.c (.r (.v (.string s_k0))))))] [1] (js [jq 3 (.mv (.k (.c (.r (.v (.string s_k0))))))] [1,3] (.seq (js [jm 4 (ki 0)] [1,3,4] (.bl 0 (.seq (js [jm 6 4,jf 7 0 1,jk 8 7,jq 9 (.len false 8),jb 10 .lss .i 6 9] [1,3,4,10] (.cond 10 .skip (.exit 0))) (.seq (.block 1 (.reg none [jm 13 3,jq 14 (.bin .add .s 13 (.k (.c (.r (.v (.string s_k3)))))),jf 15 0 1,jk 16 15,jm 17 4,ja 18 1 16 17,jk 19 18,jb 20 .add .s 14 19,jm 3 20] [1,3,4])) (.reg none [jm 11 4,jb 12 .add .i 11 (ki 1),jm 4 12] [1,3,4]))))) (.seq (js [jm 5 (ki 0)] [1,3,5] (.bl 2 (.seq (js [jm 21 5,jf 22 1 1,jk 23 22,jq 24 (.len false 23),jb 25 .lss .i 21 24] [1,3,5,25] (.cond 25 .skip (.exit 2))) (.seq (.block 3 (.reg (some [[],[0],[],[2],[],[2,3,4],[2,3,4,5],[2,3,4,5,6],[2,3,4,5,6,7],[0,1,2,3,4,5,6,7,8],[0,1,2,3,4,5,6,7,8,9],[],[11],[],[11,12,13],[11,12,13,14],[11,12,13,14,15],[2,3,4,5,6,7,8,11,12,13,14,15,16],[0,1,2,3,4,5,6,7,8,9,10,11,12,13,14,15,16,17],[0,1,2,3,4,5,6,7,8,9,10,11,12,13,14,15,16,17,18]]) [jm 28 3,jq 29 (.bin .add .s 28 (.k (.c (.r (.v (.string s_k3)))))),jf 30 1 1,jk 31 30,jm 32 5,ja 33 2 31 32,jf 34 0 33,jk 35 34,jc 36 11 [35],jb 37 .add .s 29 36,jq 38 (.bin .add .s 37 (.k (.c (.r (.v (.string s_k4)))))),jf 39 1 1,jk 40 39,jm 41 5,ja 42 2 40 41,jf 43 1 42,jk 44 43,jc 45 11 [44],jb 46 .add .s 38 45,jm 3 46] [1,3,5])) (.reg none [jm 26 5,jb 27 .add .i 26 (ki 1),jm 5 27] [1,3,5]))))) (.seq (js [jm 47 3,jq 48 (.bin .eql .s 47 (.k (.c (.r (.v (.string s_k0))))))] [3,48] (.cond 48 (js [jq 2 (.mv (.k (.c (.r (.v (.string s_k5))))))] [2] .ret) .skip)) (js [jm 49 3,jq 50 (.ssl 49 (some (ki 1)) none),jm 2 50] [2] .ret)))))
def rv5:List RV:=[.t 2]
def ay (g:G) (t:TE):List Trip→ByteArray→Option ByteArray
 |[],v3=>
  some v3
 |z2::ls2,v3=>
  gd ((v3.size+bE.size≤70368744177664))<|
  cl (bM g t z2.Leg) fun x1=>
  gd (((g.cat v3 bE).size+x1.size≤70368744177664))<|
  gd (((g.cat (g.cat v3 bE) x1).size+cF.size≤70368744177664))<|
  cl (bM g t z2.Day) fun x2=>
  gd (((g.cat (g.cat (g.cat v3 bE) x1) cF).size+x2.size≤70368744177664))<|
  ay g t ls2 (g.cat (g.cat (g.cat (g.cat v3 bE) x1) cF) x2)
def aA (g:G) (t:TE):List ByteArray→ByteArray→Option ByteArray
 |[],v1=>
  some v1
 |z1::ls1,v1=>
  gd ((v1.size+bE.size≤70368744177664))<|
  gd (((g.cat v1 bE).size+z1.size≤70368744177664))<|
  aA g t ls1 (g.cat (g.cat v1 bE) z1)
def bt (g:G) (t:TE) (a0:Belief):Option ByteArray:=
 cl (aA g t a0.Places bI) fun y1=>
 cl (ay g t a0.Rides y1) fun y2=>
 br (g.seq y2 bI)
 (
  some eM)
 (
  gd (((0:Int)≤1∧1≤(g.int (g.slen y2))∧(g.int (g.slen y2))≤(((y2.size):Nat):Int)))<|
  some (g.sub3 y2 1 (g.int (g.slen y2))))
theorem fE {g:G} {t:TE} {a0:Belief} {r:ByteArray} (hg:g=G.real) (ht:t=TE.real) (h:bt g t a0=some r):Fn Tryd.prog 5 [.g (Belief.rs t a0)] (.c (.r (.v (.string r)))):=by
 obtain⟨X,hX⟩:=d7 (.c (.r (.v (.string r))):X);rw[←hX];refine cw (rvs:=rv5) (j:=(ir5 bI bE cF eM)) Tryd.func5 rfl (by kernel_rfl) (nb rfl) (by kernel_rfl) aq ?_;intro g2 F hg2 hF;obtain rfl:g2=g:=hg2.unique.trans hg.symm;clear hg2;obtain⟨wrap,lt,_,_,_,_,_,_,_,_,_,_,_,add,_,_,cat,seq,_,_,_,llen⟩:=g2;obtain⟨r_S,_,r_Trip⟩:=t;obtain⟨a0_Places,a0_Rides⟩:=a0
 unfold bt at h;try dsimp only at h
 obtain⟨s_k0,hs_k0⟩:∃s,bI=s:=⟨_,rfl⟩;try rw[hs_k0] at h
 rw[hs_k0];obtain⟨s_k3,hs_k3⟩:∃s,bE=s:=⟨_,rfl⟩;try rw[hs_k3] at h
 rw[hs_k3];obtain⟨s_k4,hs_k4⟩:∃s,cF=s:=⟨_,rfl⟩;try rw[hs_k4] at h
 rw[hs_k4];obtain⟨s_k5,hs_k5⟩:∃s,eM=s:=⟨_,rfl⟩;try rw[hs_k5] at h
 rw[hs_k5];cbv;obtain⟨o1,ho1,h⟩:=bp h;try dsimp only at h
 try rw[hg] at ho1
 try rw[ht] at ho1
 refine ABL.mk {p:Nat×Int×ByteArray//p.1≤a0_Places.length∧p.2.1=((p.1:Nat):Int)∧aA G.real TE.real (List.drop p.1 a0_Places) p.2.2=some o1} (fun⟨⟨k1,v2,v1⟩,_⟩=>({sl:=[(1,.c (.p 0 2 0 0)),(3,.c (.r (.v (.string v1)))),(4,.c (.r (.v (.int .i64 v2))))],tab:=[(0,some (.foc 2 [] [.r (.s 1 (r_S a0_Places)),.r (.s 2 (r_Trip a0_Rides))] []))]}:St)) 1 (fun p=>a0_Places.length-p.1.1) ⟨(0,0,s_k0),Nat.zero_le _,rfl,ho1⟩ (ByteArray) (fun y1=>({sl:=[(1,.c (.p 0 2 0 0)),(3,.c (.r (.v (.string y1))))],tab:=[(0,some (.foc 2 [] [.r (.s 1 (r_S a0_Places)),.r (.s 2 (r_Trip a0_Rides))] []))]}:St)) 1 (fun y=>o1=y) ?_ ?_ ?_
 ·refine Wk.of [(0,some 0)] rfl rfl ?_ ?_
  ·cbv;all_goals exact⟨⟨_,rfl,rfl⟩,⟨_,rfl,rfl⟩,⟨_,rfl,rfl⟩,trivial⟩
  cbv;all_goals exact⟨⟨_,rfl,_,rfl,rfl,rfl,trivial⟩,trivial⟩
 ·rintro⟨⟨k1,v2,v1⟩,hk1,hi1,h_1⟩ hq1;have hm1:=(hq1.2.2.1 0 _ _ _ _ 0 _ _ rfl rfl);try dsimp only at hk1 hi1 h_1
  clear hq1;cbv
  by_cases hc1_:k1<a0_Places.length
  ·have hb1:lt v2 (llen (r_S a0_Places))=true:=dT hg ht hi1 hc1_;have hs1:=gK hg ht hi1 hc1_ hm1;obtain⟨z1,hz1⟩:=bw hc1_;rw[a7 hz1] at h_1;rw[aA] at h_1;try rw[←hg] at h_1
   try rw[←ht] at h_1
   try dsimp only at h_1
   try rw[hs_k0] at h_1
   try rw[hs_k3] at h_1
   try rw[hs_k4] at h_1
   try rw[hs_k5] at h_1
   rw[hb1];cbv;obtain⟨hc1,h_1⟩:=bO h_1;refine AStep.mk (cU hc1) ?_;cbv;refine AStep.mk (hZ hi1) ?_;cbv;refine AGet.mk _ (e7 hg ht hi1 hz1) ?_;cbv;obtain⟨hc2,h_1⟩:=bO h_1;refine AStep.mk (cU hc2) ?_;cbv;try rw[hg] at h_1
   try rw[ht] at h_1
   refine⟨⟨(k1+1,(wrap .i64 (add v2 1)),(cat (cat v1 s_k3) z1)),hc1_,hs1,h_1⟩,Wk.of [(0,some 0)] rfl rfl ?_ ?_,d8 hc1_⟩
   ·cbv;all_goals exact⟨⟨_,rfl,rfl⟩,⟨_,rfl,rfl⟩,⟨_,rfl,rfl⟩,trivial⟩
   cbv;all_goals exact⟨⟨_,rfl,_,rfl,rfl,rfl,trivial⟩,trivial⟩
  have hb1:lt v2 (llen (r_S a0_Places))=false:=c8 hg ht hi1 hc1_;rw[List.drop_of_length_le (Nat.le_of_not_lt hc1_)] at h_1;rw[aA] at h_1;try rw[←hg] at h_1
  try rw[←ht] at h_1
  try dsimp only at h_1
  try rw[hs_k0] at h_1
  try rw[hs_k3] at h_1
  try rw[hs_k4] at h_1
  try rw[hs_k5] at h_1
  rw[hb1];cbv;refine⟨v1,Wk.of [(0,some 0)] rfl rfl ?_ ?_,(Option.some.inj h_1).symm⟩
  ·cbv;all_goals exact⟨⟨_,rfl,rfl⟩,⟨_,rfl,rfl⟩,trivial⟩
  cbv;all_goals exact⟨⟨_,rfl,_,rfl,rfl,rfl,trivial⟩,trivial⟩
 rintro y1 hy1;replace hy1:=hy1.symm;subst hy1;try dsimp only[lr,lrL,lrp,fD] at h
 cbv;obtain⟨o2,ho2,h⟩:=bp h;try dsimp only at h
 try rw[hg] at ho2
 try rw[ht] at ho2
 refine ABL.mk {p:Nat×Int×ByteArray//p.1≤a0_Rides.length∧p.2.1=((p.1:Nat):Int)∧ay G.real TE.real (List.drop p.1 a0_Rides) p.2.2=some o2} (fun⟨⟨k2,v4,v3⟩,_⟩=>({sl:=[(1,.c (.p 0 2 0 0)),(3,.c (.r (.v (.string v3)))),(5,.c (.r (.v (.int .i64 v4))))],tab:=[(0,some (.foc 2 [] [.r (.s 1 (r_S a0_Places)),.r (.s 2 (r_Trip a0_Rides))] []))]}:St)) 1 (fun p=>a0_Rides.length-p.1.1) ⟨(0,0,y1),Nat.zero_le _,rfl,ho2⟩ (ByteArray) (fun y2=>({sl:=[(3,.c (.r (.v (.string y2))))],tab:=[]}:St)) 0 (fun y=>o2=y) ?_ ?_ ?_
 ·refine Wk.of [(0,some 0)] rfl rfl ?_ ?_
  ·cbv;all_goals exact⟨⟨_,rfl,rfl⟩,⟨_,rfl,rfl⟩,⟨_,rfl,rfl⟩,trivial⟩
  cbv;all_goals exact⟨⟨_,rfl,_,rfl,rfl,rfl,trivial⟩,trivial⟩
 ·rintro⟨⟨k2,v4,v3⟩,hk2,hi2,h_2⟩ hq2;have hm2:=(hq2.2.2.1 0 _ _ _ _ 1 _ _ rfl rfl);try dsimp only at hk2 hi2 h_2
  clear hq2;cbv
  by_cases hc2_:k2<a0_Rides.length
  ·have hb2:lt v4 (llen (r_Trip a0_Rides))=true:=cj hg ht hi2 hc2_;have hs2:=dH hg ht hi2 hc2_ hm2;obtain⟨z2,hz2⟩:=bw hc2_;rw[a7 hz2] at h_2;rw[ay] at h_2;obtain⟨z2_Leg,z2_Day⟩:=z2;try rw[←hg] at h_2
   try rw[←ht] at h_2
   try dsimp only at h_2
   try rw[hs_k0] at h_2
   try rw[hs_k3] at h_2
   try rw[hs_k4] at h_2
   try rw[hs_k5] at h_2
   rw[hb2];cbv;obtain⟨hc3,h_2⟩:=bO h_2;refine AStep.mk (cU hc3) ?_;cbv;refine AStep.mk (hZ hi2) ?_;cbv;refine AGet.mk _ (ct hg ht hi2 hz2) ?_;cbv;obtain⟨x1,hx1,h_2⟩:=bp h_2;try dsimp only at h_2
   refine ACall.mk _ _ rfl (hF _ _ _ (eu hg ht hx1)) (.inl rfl) (nb rfl) ?_;cbv;obtain⟨hc4,h_2⟩:=bO h_2;refine AStep.mk (cU hc4) ?_;cbv;obtain⟨hc5,h_2⟩:=bO h_2;refine AStep.mk (cU hc5) ?_;cbv;refine AStep.mk (hZ hi2) ?_;cbv;refine AGet.mk _ (ct hg ht hi2 hz2) ?_;cbv;obtain⟨x2,hx2,h_2⟩:=bp h_2;try dsimp only at h_2
   refine ACall.mk _ _ rfl (hF _ _ _ (eu hg ht hx2)) (.inl rfl) (nb rfl) ?_;cbv;obtain⟨hc6,h_2⟩:=bO h_2;refine AStep.mk (cU hc6) ?_;cbv;try rw[hg] at h_2
   try rw[ht] at h_2
   refine⟨⟨(k2+1,(wrap .i64 (add v4 1)),(cat (cat (cat (cat v3 s_k3) x1) s_k4) x2)),hc2_,hs2,h_2⟩,Wk.of [(0,some 0)] rfl rfl ?_ ?_,d8 hc2_⟩
   ·cbv;all_goals exact⟨⟨_,rfl,rfl⟩,⟨_,rfl,rfl⟩,⟨_,rfl,rfl⟩,trivial⟩
   cbv;all_goals exact⟨⟨_,rfl,_,rfl,rfl,rfl,trivial⟩,trivial⟩
  have hb2:lt v4 (llen (r_Trip a0_Rides))=false:=bX hg ht hi2 hc2_;rw[List.drop_of_length_le (Nat.le_of_not_lt hc2_)] at h_2;rw[ay] at h_2;try rw[←hg] at h_2
  try rw[←ht] at h_2
  try dsimp only at h_2
  try rw[hs_k0] at h_2
  try rw[hs_k3] at h_2
  try rw[hs_k4] at h_2
  try rw[hs_k5] at h_2
  rw[hb2];cbv;refine⟨v3,Wk.of [] rfl rfl ?_ ?_,(Option.some.inj h_2).symm⟩
  ·cbv;all_goals exact⟨⟨_,rfl,rfl⟩,trivial⟩
  cbv;all_goals exact trivial
 rintro y2 hy2;replace hy2:=hy2.symm;subst hy2;try dsimp only[lr,lrL,lrp,fD] at h
 cbv
 cases hb3:(seq y2 s_k0)
 rotate_left
 ·rw[aJ hb3] at h;cbv;obtain rfl:=Option.some.inj h;exact ARet.mk trivial hX.symm
 rw[aw hb3] at h;cbv;obtain⟨hc7,h⟩:=bO h;refine AStep.mk hc7 ?_;cbv;obtain rfl:=Option.some.inj h;exact ARet.mk trivial hX.symm
def ir12:J:=js [jq 2 (.mv (.k (.c (.n 1))))] [0] (js [jm 5 0,jq 6 (.len false 5),jq 7 (.mk 1 16 [.r (.v (.string .empty))] 6),jm 3 7] [0,3] (.seq (js [jm 4 (ki 0)] [0,3,4] (.bl 0 (.seq (js [jm 8 4,jm 9 0,jq 10 (.len false 9),jb 11 .lss .i 8 10] [0,3,4,11] (.cond 11 .skip (.exit 0))) (.seq (.block 1 (.reg none [jm 14 3,jm 15 4,jm 16 0,jm 17 4,ja 18 1 16 17,jk 19 18,ja 20 1 14 15,jp (.st 1 20 19)] [0,3,4])) (.reg none [jm 12 4,jb 13 .add .i 12 (ki 1),jm 4 13] [0,3,4]))))) (js [jm 21 3,jm 2 21] [2] .ret)))
def rv12:List RV:=[.t 2]
def aP (g:G) (t:TE):List ByteArray→Int→List ByteArray→Option (List ByteArray)
 |[],v1,w1=>
  some w1
 |z1::ls1,v1,w1=>
  gd (((0:Int)≤v1∧v1<(((g.dlen (t.d_S w1)):Nat):Int)))<|
  gt w1 (g.nat v1) fun x1=>
  lP (List.set w1 (g.nat v1) z1) fun(l2:List ByteArray)=>
  aP g t ls1 (g.wrap .i64 (g.add v1 1)) l2
def cE (g:G) (t:TE) (a0:List ByteArray):Option (List ByteArray):=
 gd (((0:Int)≤(g.llen (t.r_S a0))∧16* (g.llen (t.r_S a0))≤70368744177664∧(g.llen (t.r_S a0))≤4611686018427387904))<|
 lP (List.replicate (g.nat (g.llen (t.r_S a0))) ByteArray.empty) fun(l1:List ByteArray)=>
 cl (aP g t a0 0 l1) fun y1=>
 some y1
theorem iN {g:G} {t:TE} {a0:List ByteArray} {r:List ByteArray} (hg:g=G.real) (ht:t=TE.real) (h:cE g t a0=some r):Fn Tryd.prog 12 [.c (.s 1 (t.r_S a0))] (.c (.o 1 (t.d_S r))):=by
 obtain⟨X,hX⟩:=d7 (.c (.o 1 (t.d_S r)):X);rw[←hX];refine cw (rvs:=rv12) (j:=ir12) Tryd.func12 rfl (by kernel_rfl) (nb rfl) (by kernel_rfl) aq ?_;intro g2 F hg2 hF;obtain rfl:g2=g:=hg2.unique.trans hg.symm;clear hg2;obtain⟨wrap,lt,_,_,_,_,_,_,_,_,_,_,_,add,_,_,_,_,_,_,_,llen,_,_,dlen⟩:=g2;obtain⟨r_S,d_S⟩:=t;unfold cE at h;try dsimp only at h
 cbv;obtain⟨hc2,h⟩:=bO h;refine AStep.mk (qr hc2) ?_;cbv;obtain⟨l1,hl1,h⟩:=cI h;try dsimp only at h
 refine ANew.mk (d_S l1) (dlen (d_S l1)) (by rw[←hl1];exact qH hg ht _ ByteArray.empty) (by rw[←hl1];exact p9 hg ht _ ByteArray.empty) ?_;cbv;obtain⟨o1,ho1,h⟩:=bp h;try dsimp only at h
 try rw[hg] at ho1
 try rw[ht] at ho1
 refine ABL.mk {p:Nat×Int×List ByteArray//p.1≤a0.length∧p.2.1=((p.1:Nat):Int)∧aP G.real TE.real (List.drop p.1 a0) p.2.1 p.2.2=some o1} (fun⟨⟨k1,v1,w1⟩,_⟩=>({sl:=[(0,.c (.r (.s 1 (r_S a0)))),(3,.c (.f 0 1 0 (dlen (d_S w1)))),(4,.c (.r (.v (.int .i64 v1))))],tab:=[(0,some (.arr 1 (d_S w1)))]}:St)) 1 (fun p=>a0.length-p.1.1) ⟨(0,0,l1),Nat.zero_le _,rfl,ho1⟩ (List ByteArray) (fun y1=>({sl:=[(3,.c (.f 0 1 0 (dlen (d_S y1))))],tab:=[(0,some (.arr 1 (d_S y1)))]}:St)) 1 (fun y=>o1=y) ?_ ?_ ?_
 ·refine Wk.of [(0,some 48)] rfl rfl ?_ ?_
  ·cbv;all_goals exact⟨⟨_,rfl,rfl⟩,⟨_,rfl,rfl⟩,⟨_,rfl,rfl⟩,trivial⟩
  cbv;all_goals exact⟨⟨_,rfl,rfl⟩,trivial⟩
 ·rintro⟨⟨k1,v1,w1⟩,hk1,hi1,h_1⟩ hq1;have hm1:=(hq1.1 0 _ _ rfl);try dsimp only at hk1 hi1 h_1
  clear hq1;cbv
  by_cases hc1_:k1<a0.length
  ·have hb1:lt v1 (llen (r_S a0))=true:=dT hg ht hi1 hc1_;have hs1:=gK hg ht hi1 hc1_ hm1;obtain⟨z1,hz1⟩:=bw hc1_;rw[a7 hz1] at h_1;rw[aP] at h_1;try rw[←hg] at h_1
   try rw[←ht] at h_1
   try dsimp only at h_1
   rw[hb1];cbv;refine AStep.mk (hZ hi1) ?_;cbv;refine AGet.mk _ (e7 hg ht hi1 hz1) ?_;cbv;obtain⟨hc1,h_1⟩:=bO h_1;refine AStep.mk hc1 ?_;cbv;obtain⟨x1,hx1,h_1⟩:=mt h_1;try dsimp only at h_1
   refine AGet.mk _ (qe hg ht hx1) ?_;cbv;obtain⟨l2,hl2,h_1⟩:=cI h_1;try dsimp only at h_1
   refine ANew.mk (d_S l2) _ (by rw[←hl2];exact qM hg ht _ _ z1) rfl ?_;have hnl2:(dlen (d_S w1))=(d_S l2).length:=(by rw[←hl2,pD ht];exact(bZ hg ht _));cbv;try rw[hg] at h_1
   try rw[ht] at h_1
   refine⟨⟨(k1+1,(wrap .i64 (add v1 1)),l2),hc1_,hs1,h_1⟩,Wk.of [(0,some 0)] rfl rfl ?_ ?_,d8 hc1_⟩
   ·cbv;all_goals try rw[show(dlen (d_S w1))=(dlen (d_S l2)) from(hnl2).trans (bZ hg ht _).symm]
    all_goals exact⟨⟨_,rfl,rfl⟩,⟨_,rfl,rfl⟩,⟨_,rfl,rfl⟩,trivial⟩
   cbv;all_goals try rw[show(dlen (d_S w1))=(dlen (d_S l2)) from(hnl2).trans (bZ hg ht _).symm]
   all_goals exact⟨⟨_,rfl,rfl⟩,trivial⟩
  have hb1:lt v1 (llen (r_S a0))=false:=c8 hg ht hi1 hc1_;rw[List.drop_of_length_le (Nat.le_of_not_lt hc1_)] at h_1;rw[aP] at h_1;try rw[←hg] at h_1
  try rw[←ht] at h_1
  try dsimp only at h_1
  rw[hb1];cbv;refine⟨w1,Wk.of [(0,some 0)] rfl rfl ?_ ?_,(Option.some.inj h_1).symm⟩
  ·cbv;all_goals exact⟨⟨_,rfl,rfl⟩,trivial⟩
  cbv;all_goals exact⟨⟨_,rfl,rfl⟩,trivial⟩
 rintro y1 hy1;replace hy1:=hy1.symm;subst hy1;try dsimp only[lr,lrL,lrp,fD] at h
 cbv;obtain rfl:=Option.some.inj h;exact ARet.mk ⟨rfl,(bZ hg ht _)⟩ hX.symm
def ir18:J:=js [jq 1 (.box 0),jq 2 (.alloc [.r (.v (.int .i64 0)),.r (.v (.int .i64 0))])] [1,2] (js [jq 3 (.alloc [.r (.v (.int .i64 0)),.r (.v (.int .i64 0))])] [1,2,3] (js [jf 4 0 1,jk 5 4,jf 6 0 3,jp (.st 1 6 5)] [1,2,3] (js [jf 7 1 1,jk 8 7,jf 9 1 3,jp (.st 1 9 8)] [2,3] (js [jl 10 2 3,jp (.st 2 2 10)] [2] .ret))))
def rv18:List RV:=[.c 2 true 2]
def fm (g:G) (t:TE) (a0:Trip):Trip:=
 a0
theorem lU {g:G} {t:TE} {a0:Trip} {r:Trip} (hg:g=G.real) (ht:t=TE.real) (h:fm g t a0=r):Fn Tryd.prog 18 [.g (Trip.rs t a0)] (.g (Trip.ds t r)):=by
 obtain⟨X,hX⟩:=d7 (.g (Trip.ds t r):X);rw[←hX];refine cw (rvs:=rv18) (j:=ir18) Tryd.func18 rfl (by kernel_rfl) (nb rfl) (by kernel_rfl) aq ?_;intro g2 F hg2 hF;obtain rfl:g2=g:=hg2.unique.trans hg.symm;clear hg2;obtain⟨_⟩:=g2;obtain⟨_⟩:=t;obtain⟨a0_Leg,a0_Day⟩:=a0;unfold fm at h
 try dsimp only at h
 cbv;subst h;exact ARet.mk trivial hX.symm
def ir13:J:=js [jq 2 (.mv (.k (.c (.n 2))))] [0] (js [jm 5 0,jq 6 (.len false 5),jq 7 (.mk 2 16 [.r (.v (.int .i64 0)),.r (.v (.int .i64 0))] 6),jm 3 7] [0,3] (.seq (js [jm 4 (ki 0)] [0,3,4] (.bl 0 (.seq (js [jm 8 4,jm 9 0,jq 10 (.len false 9),jb 11 .lss .i 8 10] [0,3,4,11] (.cond 11 .skip (.exit 0))) (.seq (.block 1 (.reg none [jm 14 3,jm 15 4,jm 16 0,jm 17 4,ja 18 2 16 17,jl 19 2 18,jc 20 18 [19],ja 21 2 14 15,jp (.st 2 21 20)] [0,3,4])) (.reg none [jm 12 4,jb 13 .add .i 12 (ki 1),jm 4 13] [0,3,4]))))) (js [jm 22 3,jm 2 22] [2] .ret)))
def rv13:List RV:=[.t 2]
def a8 (g:G) (t:TE):List Trip→Int→List Trip→Option (List Trip)
 |[],v1,w1=>
  some w1
 |z1::ls1,v1,w1=>
  lP (fm g t z1) fun x1=>
  gd (((0:Int)≤v1∧v1<(((g.dlen (t.d_Trip w1)):Nat):Int)))<|
  gt w1 (g.nat v1) fun x2=>
  lP (List.set w1 (g.nat v1) (Trip.mk x1.Leg x1.Day)) fun(l2:List Trip)=>
  a8 g t ls1 (g.wrap .i64 (g.add v1 1)) l2
def dv (g:G) (t:TE) (a0:List Trip):Option (List Trip):=
 gd (((0:Int)≤(g.llen (t.r_Trip a0))∧16* (g.llen (t.r_Trip a0))≤70368744177664∧(g.llen (t.r_Trip a0))≤4611686018427387904))<|
 lP (List.replicate (g.nat (g.llen (t.r_Trip a0))) (Trip.mk 0 0)) fun(l1:List Trip)=>
 cl (a8 g t a0 0 l1) fun y1=>
 some y1
theorem kT {g:G} {t:TE} {a0:List Trip} {r:List Trip} (hg:g=G.real) (ht:t=TE.real) (h:dv g t a0=some r):Fn Tryd.prog 13 [.c (.s 2 (t.r_Trip a0))] (.c (.o 2 (t.d_Trip r))):=by
 obtain⟨X,hX⟩:=d7 (.c (.o 2 (t.d_Trip r)):X);rw[←hX];refine cw (rvs:=rv13) (j:=ir13) Tryd.func13 rfl (by kernel_rfl) (nb rfl) (by kernel_rfl) aq ?_;intro g2 F hg2 hF;obtain rfl:g2=g:=hg2.unique.trans hg.symm;clear hg2;obtain⟨wrap,lt,_,_,_,_,_,_,_,_,_,_,_,add,_,_,_,_,_,_,_,llen,_,_,dlen⟩:=g2;obtain⟨_,_,r_Trip,d_Trip⟩:=t;unfold dv at h;try dsimp only at h
 cbv;obtain⟨hc2,h⟩:=bO h;refine AStep.mk (qr hc2) ?_;cbv;obtain⟨l1,hl1,h⟩:=cI h;try dsimp only at h
 refine ANew.mk (d_Trip l1) (dlen (d_Trip l1)) (by rw[←hl1];exact nm hg ht _ (Trip.mk 0 0)) (by rw[←hl1];exact md hg ht _ (Trip.mk 0 0)) ?_;cbv;obtain⟨o1,ho1,h⟩:=bp h;try dsimp only at h
 try rw[hg] at ho1
 try rw[ht] at ho1
 refine ABL.mk {p:Nat×Int×List Trip//p.1≤a0.length∧p.2.1=((p.1:Nat):Int)∧a8 G.real TE.real (List.drop p.1 a0) p.2.1 p.2.2=some o1} (fun⟨⟨k1,v1,w1⟩,_⟩=>({sl:=[(0,.c (.r (.s 2 (r_Trip a0)))),(3,.c (.f 0 2 0 (dlen (d_Trip w1)))),(4,.c (.r (.v (.int .i64 v1))))],tab:=[(0,some (.arr 2 (d_Trip w1)))]}:St)) 1 (fun p=>a0.length-p.1.1) ⟨(0,0,l1),Nat.zero_le _,rfl,ho1⟩ (List Trip) (fun y1=>({sl:=[(3,.c (.f 0 2 0 (dlen (d_Trip y1))))],tab:=[(0,some (.arr 2 (d_Trip y1)))]}:St)) 1 (fun y=>o1=y) ?_ ?_ ?_
 ·refine Wk.of [(0,some 48)] rfl rfl ?_ ?_
  ·cbv;all_goals exact⟨⟨_,rfl,rfl⟩,⟨_,rfl,rfl⟩,⟨_,rfl,rfl⟩,trivial⟩
  cbv;all_goals exact⟨⟨_,rfl,rfl⟩,trivial⟩
 ·rintro⟨⟨k1,v1,w1⟩,hk1,hi1,h_1⟩ hq1;have hm1:=(hq1.1 0 _ _ rfl);try dsimp only at hk1 hi1 h_1
  clear hq1;cbv
  by_cases hc1_:k1<a0.length
  ·have hb1:lt v1 (llen (r_Trip a0))=true:=cj hg ht hi1 hc1_;have hs1:=dH hg ht hi1 hc1_ hm1;obtain⟨z1,hz1⟩:=bw hc1_;rw[a7 hz1] at h_1;rw[a8] at h_1;obtain⟨z1_Leg,z1_Day⟩:=z1;try rw[←hg] at h_1
   try rw[←ht] at h_1
   try dsimp only at h_1
   rw[hb1];cbv;refine AStep.mk (hZ hi1) ?_;cbv;refine AGet.mk _ (ct hg ht hi1 hz1) ?_;cbv;obtain⟨x1,hx1,h_1⟩:=cI h_1;obtain⟨x1_Leg,x1_Day⟩:=x1;try dsimp only at h_1
   refine ACall.mk _ _ rfl (hF _ _ _ (lU hg ht hx1)) (.inl rfl) (nb rfl) ?_;cbv;obtain⟨hc1,h_1⟩:=bO h_1;refine AStep.mk hc1 ?_;cbv;obtain⟨x2,hx2,h_1⟩:=mt h_1;obtain⟨x2_Leg,x2_Day⟩:=x2;try dsimp only at h_1
   refine AGet.mk _ (mh hg ht hx2) ?_;cbv;obtain⟨l2,hl2,h_1⟩:=cI h_1;try dsimp only at h_1
   refine ANew.mk (d_Trip l2) _ (by rw[←hl2];exact ny hg ht _ _ (Trip.mk x1_Leg x1_Day)) rfl ?_;have hnl2:(dlen (d_Trip w1))=(d_Trip l2).length:=(by rw[←hl2,lM ht];exact(dC hg ht _));cbv;try rw[hg] at h_1
   try rw[ht] at h_1
   refine⟨⟨(k1+1,(wrap .i64 (add v1 1)),l2),hc1_,hs1,h_1⟩,Wk.of [(0,some 0)] rfl rfl ?_ ?_,d8 hc1_⟩
   ·cbv;all_goals try rw[show(dlen (d_Trip w1))=(dlen (d_Trip l2)) from(hnl2).trans (dC hg ht _).symm]
    all_goals exact⟨⟨_,rfl,rfl⟩,⟨_,rfl,rfl⟩,⟨_,rfl,rfl⟩,trivial⟩
   cbv;all_goals try rw[show(dlen (d_Trip w1))=(dlen (d_Trip l2)) from(hnl2).trans (dC hg ht _).symm]
   all_goals exact⟨⟨_,rfl,rfl⟩,trivial⟩
  have hb1:lt v1 (llen (r_Trip a0))=false:=bX hg ht hi1 hc1_;rw[List.drop_of_length_le (Nat.le_of_not_lt hc1_)] at h_1;rw[a8] at h_1;try rw[←hg] at h_1
  try rw[←ht] at h_1
  try dsimp only at h_1
  rw[hb1];cbv;refine⟨w1,Wk.of [(0,some 0)] rfl rfl ?_ ?_,(Option.some.inj h_1).symm⟩
  ·cbv;all_goals exact⟨⟨_,rfl,rfl⟩,trivial⟩
  cbv;all_goals exact⟨⟨_,rfl,rfl⟩,trivial⟩
 rintro y1 hy1;replace hy1:=hy1.symm;subst hy1;try dsimp only[lr,lrL,lrp,fD] at h
 cbv;obtain rfl:=Option.some.inj h;exact ARet.mk ⟨rfl,(dC hg ht _)⟩ hX.symm
def ir6:J:=js [jq 1 (.box 0),jq 2 (.alloc [.n 1,.n 2])] [1,2] (js [jq 3 (.alloc [.n 1,.n 2])] [1,2,3] (js [jf 4 0 1,jk 5 4,jc 6 12 [5],jf 7 0 3,jp (.st 1 7 6)] [1,2,3] (js [jf 8 1 1,jk 9 8,jc 10 13 [9],jf 11 1 3,jp (.st 1 11 10)] [2,3] (js [jl 12 2 3,jp (.st 2 2 12)] [2] .ret))))
def rv6:List RV:=[.c 2 true 2]
def bH (g:G) (t:TE) (a0:Belief):Option Belief:=
 cl (cE g t a0.Places) fun x1=>
 cl (dv g t a0.Rides) fun x2=>
 some (Belief.mk x1 x2)
theorem dI {g:G} {t:TE} {a0:Belief} {r:Belief} (hg:g=G.real) (ht:t=TE.real) (h:bH g t a0=some r):Fn Tryd.prog 6 [.g (Belief.rs t a0)] (.g (Belief.ds t r)):=by
 obtain⟨X,hX⟩:=d7 (.g (Belief.ds t r):X);rw[←hX];refine cw (rvs:=rv6) (j:=ir6) Tryd.func6 rfl (by kernel_rfl) (nb rfl) (by kernel_rfl) aq ?_;intro g2 F hg2 hF;obtain rfl:g2=g:=hg2.unique.trans hg.symm;clear hg2;obtain⟨_⟩:=g2;obtain⟨_⟩:=t;obtain⟨a0_Places,a0_Rides⟩:=a0;unfold bH at h
 try dsimp only at h
 cbv;obtain⟨x1,hx1,h⟩:=bp h;try dsimp only at h
 refine ACall.mk _ _ rfl (hF _ _ _ (iN hg ht hx1)) (.inl rfl) (nb rfl) ?_;cbv;obtain⟨x2,hx2,h⟩:=bp h;try dsimp only at h
 refine ACall.mk _ _ rfl (hF _ _ _ (kT hg ht hx2)) (.inl rfl) (nb rfl) ?_;cbv;obtain rfl:=Option.some.inj h;exact ARet.mk ⟨⟨rfl,(bZ hg ht _)⟩,⟨rfl,(dC hg ht _)⟩⟩ hX.symm
end Go.Vs
namespace Go.Vs
open Go.RowKit
theorem pd {P:Program} {f:FuncId} {xs:List Value} {y:Value} (hy:y.oneCell'=true)
 (h:∀w,Laid P w→Calls P f xs.toArray w fun e w'=>e=.returned y∧Below w.heap.size w w'):Fn P f (xs.map fun x=>.c (.v x)) (.c (.r (.v y))):=by
 intro w S0 vs hS ha hL
 have e:=ii _ _ ha
 subst e
 refine(h w hL).mono ?_
 rintro e w' ⟨rfl,hb⟩
 refine⟨y,[],fun _=>False,rfl,?_,⟨hb,List.nodup_nil,by simp,by simp⟩⟩
 simp only[bu,bo,ap,true_and]
 exact hy
theorem oO {P:Program} {w:World} (h:Laid P w) (hg:(P.globalNamed "internal/strconv.uint64pow10").isSome=true):Lib.TabIs P w "internal/strconv.uint64pow10" .u64 Lib.pow10Tab:=
 h ("internal/strconv.uint64pow10",.u64,Lib.pow10Tab) (by simp[qS]) hg
theorem iT {w:World} {S:Nat→Prop} {b:Nat}:∀(l:List ByteArray) (o:Nat),aH w S b 1 o (l.map fun x=>[R.v (.string x)])→∀(j:Nat) x,l[j]?=some x→w.cell? ⟨b,o+j,none⟩=some (.string x)
 |[],_,_,j,x,h=>by simp at h
 |y::l,o,h,j,x,hj=>by
  simp only[List.map_cons,aH,ah,ap] at h
  obtain⟨⟨_,⟨z,hz,rfl,_⟩,_⟩,h2⟩:=h
  cases j with
  |zero=>simp at hj;subst hj;simpa using hz
  |succ j=>
   have:=iT l (o+1) h2 j x (by simpa using hj)
   rw[show o+(j+1)=o+1+j by omega];exact this
theorem pS {P:Program} {f:FuncId} (h0:∀(a:Option Addr) (c:Nat) (sep:ByteArray) (w:World),Calls P f #[.slice a 0 c,.string sep] w fun e w'=>e=.returned (.string ⟨#[]⟩)∧w'=w)
 (h1:∀(bk o c:Nat) (xs:List ByteArray) (sep:ByteArray) (w:World),(∀(j:Nat) x,xs[j]?=some x→w.cell? ⟨bk,o+j,none⟩=some (.string x))→bk<w.heap.size→xs.length≤140737488355328→xs.length≤c→(Lib.join (xs.map (·.data.toList)) sep.data.toList).length≤140737488355328→
  Calls P f #[.slice (some ⟨bk,o,none⟩) xs.length c,.string sep] w fun e w'=>e=.returned (.string ⟨(Lib.join (xs.map (·.data.toList)) sep.data.toList).toArray⟩)∧Below w.heap.size w w')
 (l:List ByteArray) (sep:ByteArray) (hN:l.length≤140737488355328) (hlen:(Lib.join (l.map (·.data.toList)) sep.data.toList).length≤140737488355328):
 Fn P f [.c (.s 1 (l.map fun x=>[R.v (.string x)])),.c (.v (.string sep))] (.c (.r (.v (.string ⟨(Lib.join (l.map (·.data.toList)) sep.data.toList).toArray⟩)))):=by
 intro w S0 vs hS ha hL
 simp only[ca,ma,ap] at ha
 obtain⟨z,zs,rfl,⟨a,cap,rfl,c1,c2,c3⟩,z2,zs2,rfl,⟨rfl,_⟩,rfl⟩:=ha
 rw[List.length_map] at c1 ⊢
 cases hl:l with
 |nil=>
  refine(h0 a cap sep w).mono ?_
  rintro e w' ⟨rfl,rfl⟩
  refine⟨_,[],fun _=>False,rfl,?_,⟨Below.refl _ _,List.nodup_nil,by simp,by simp⟩⟩
  simp only[bu,bo,ap,true_and]
  exact⟨rfl,rfl⟩
 |cons x0 l0=>
  rw[←hl]
  obtain⟨b,o,rfl,hb,hr⟩:=c3 (by rw[hl];simp)
  refine(h1 b o cap l sep w (iT l o hr) (hS b hb) hN c1 hlen).mono ?_
  rintro e w' ⟨rfl,hbl⟩
  refine⟨_,[],fun _=>False,rfl,?_,⟨hbl,List.nodup_nil,by simp,by simp⟩⟩
  simp only[bu,bo,ap,true_and]
  rfl
end Go.Vs
namespace Go.Proofs
open Go.Shelf Go.RowKit Go.Lib Go.Sort
set_option maxHeartbeats 2000000
set_option maxRecDepth 100000
def Tryd.laysM171_ren : Go.Shelf.Ren := ⟨fun | 171 => 24 | 243 => 27 | 246 => 30 | 283 => 31 | 284 => 32 | 285 => 33 | 286 => 34 | 129 => 36 | 317 => 35 | 318 => 37 | 319 => 38 | 320 => 39 | 337 => 40 | 338 => 41 | n => n, fun | 3 => 3 | 9 => 9 | 2 => 2 | 4 => 4 | 171 => 63 | 0 => 0 | 53 => 64 | 37 => 45 | 5 => 5 | 173 => 67 | 212 => 71 | 51 => 72 | 20 => 20 | 213 => 73 | 46 => 75 | 232 => 78 | 233 => 79 | n => n, fun | 17 => 1 | 18 => 2 | 19 => 3 | n => n⟩
theorem Tryd.laysM171 : Go.Proofs.LaysM.n171 Tryd.prog Tryd.laysM171_ren := {
  mixed := by kernel_rfl
  f129 := Tryd.func36.trans (congrArg some (by kernel_rfl))
  f171 := Tryd.func24.trans (congrArg some (by kernel_rfl))
  f243 := Tryd.func27.trans (congrArg some (by kernel_rfl))
  f246 := Tryd.func30.trans (congrArg some (by kernel_rfl))
  f283 := Tryd.func31.trans (congrArg some (by kernel_rfl))
  f284 := Tryd.func32.trans (congrArg some (by kernel_rfl))
  f285 := Tryd.func33.trans (congrArg some (by kernel_rfl))
  f286 := Tryd.func34.trans (congrArg some (by kernel_rfl))
  f317 := Tryd.func35.trans (congrArg some (by kernel_rfl))
  f318 := Tryd.func37.trans (congrArg some (by kernel_rfl))
  f319 := Tryd.func38.trans (congrArg some (by kernel_rfl))
  f320 := Tryd.func39.trans (congrArg some (by kernel_rfl))
  f337 := Tryd.func40.trans (congrArg some (by kernel_rfl))
  f338 := Tryd.func41.trans (congrArg some (by kernel_rfl))
  t0 := Tryd.underlying0
  a0 := Tryd.isAgg0
  z0 := Tryd.sizeOf0
  v0 := Tryd.zeroValue0
  t2 := Tryd.underlying2
  a2 := Tryd.isAgg2
  z2 := Tryd.sizeOf2
  v2 := Tryd.zeroValue2
  t3 := Tryd.underlying3
  a3 := Tryd.isAgg3
  z3 := Tryd.sizeOf3
  v3 := Tryd.zeroValue3
  t4 := Tryd.underlying4
  a4 := Tryd.isAgg4
  z4 := Tryd.sizeOf4
  v4 := Tryd.zeroValue4
  t5 := Tryd.underlying5
  a5 := Tryd.isAgg5
  z5 := Tryd.sizeOf5
  v5 := Tryd.zeroValue5
  t9 := Tryd.underlying9
  a9 := Tryd.isAgg9
  z9 := Tryd.sizeOf9
  v9 := Tryd.zeroValue9
  t20 := Tryd.underlying20
  a20 := Tryd.isAgg20
  z20 := Tryd.sizeOf20
  v20 := Tryd.zeroValue20
  t37 := Tryd.underlying45
  a37 := Tryd.isAgg45
  z37 := Tryd.sizeOf45
  v37 := Tryd.zeroValue45
  t46 := Tryd.underlying75
  a46 := Tryd.isAgg75
  z46 := Tryd.sizeOf75
  v46 := Tryd.zeroValue75
  t51 := Tryd.underlying72
  a51 := Tryd.isAgg72
  z51 := Tryd.sizeOf72
  v51 := Tryd.zeroValue72
  t53 := Tryd.underlying64
  a53 := Tryd.isAgg64
  z53 := Tryd.sizeOf64
  v53 := Tryd.zeroValue64
  t171 := Tryd.underlying63
  a171 := Tryd.isAgg63
  z171 := Tryd.sizeOf63
  v171 := Tryd.zeroValue63
  t173 := Tryd.underlying67
  a173 := Tryd.isAgg67
  z173 := Tryd.sizeOf67
  v173 := Tryd.zeroValue67
  t212 := Tryd.underlying71
  a212 := Tryd.isAgg71
  z212 := Tryd.sizeOf71
  v212 := Tryd.zeroValue71
  t213 := Tryd.underlying73
  a213 := Tryd.isAgg73
  z213 := Tryd.sizeOf73
  t232 := Tryd.underlying78
  a232 := Tryd.isAgg78
  z232 := Tryd.sizeOf78
  v232 := Tryd.zeroValue78
  t233 := Tryd.underlying79
  a233 := Tryd.isAgg79
  z233 := Tryd.sizeOf79
  v233 := Tryd.zeroValue79
  g17 := by kernel_rfl
  g18 := by kernel_rfl
  g19 := by kernel_rfl
  i0 := by kernel_rfl
  i2 := by kernel_rfl
  i3 := by kernel_rfl
  i4 := by kernel_rfl
  i5 := by kernel_rfl
  i9 := by kernel_rfl
  i20 := by kernel_rfl
  i37 := by kernel_rfl
  i46 := by kernel_rfl
  i51 := by kernel_rfl
  i53 := by kernel_rfl
  i171 := by kernel_rfl
  i173 := by kernel_rfl
  i212 := by kernel_rfl
  i232 := by kernel_rfl
  i233 := by kernel_rfl
  m17 := by kernel_rfl
  m18 := by kernel_rfl
  m19 := by kernel_rfl }
theorem Tryd.itoaN:Tryd.laysM171_ren.f 171=24:=by kernel_rfl
theorem Tryd.powG:(Tryd.prog.globalNamed "internal/strconv.uint64pow10").isSome=true:=by kernel_rfl
end Go.Proofs
namespace Go.Vs
open Go Go.Proofs Go.RowKit
def cY (g:G) (t:TE) (a0:Int):Option ByteArray:=gd (-9223372036854775808≤a0∧a0≤9223372036854775807)<|some ⟨(Lib.itoa a0).toArray⟩
theorem fG {g:G} {t:TE} {a0:Int} {r:ByteArray} (hg:g=G.real) (ht:t=TE.real) (h:cY g t a0=some r):Fn Tryd.prog 24 [.c (.v (.int .i64 a0))] (.c (.r (.v (.string r)))):=by
 obtain⟨⟨h0,h1⟩,h⟩:=bO h;cases h
 refine pd (xs:=[.int .i64 a0]) rfl (fun w hw=>?_);have k:=Any.strconv_Itoa Tryd.laysM171 a0 h0 h1 w (oO hw Tryd.powG);rw[Tryd.itoaN] at k;refine k.mono ?_;rintro e w' ⟨rfl,k,os,rfl⟩;exact⟨rfl,Go.Lib.below_grow _ _ (Nat.le_refl _) _ _⟩
set_option maxRecDepth 100000
def ir19 (s_k0:ByteArray):J:=js [jq 2 (.mv (.k (.c (.r (.v (.string s_k0))))))] [0] (js [jm 3 0,jc 4 24 [3],jm 2 4] [2] .ret)
def rv19:List RV:=[.t 2]
open Go.Proofs Go.IntWalk
set_option linter.unusedVariables false
set_option maxHeartbeats 4000000
def bP (g:G) (t:TE) (a0:Int):Option ByteArray:=
 cl (cY g t a0) fun x1=>
 some x1
theorem eA {g:G} {t:TE} {a0:Int} {r:ByteArray} (hg:g=G.real) (ht:t=TE.real) (h:bP g t a0=some r):Fn Tryd.prog 19 [.c (.v (.int .i64 a0))] (.c (.r (.v (.string r)))):=by
 obtain⟨X,hX⟩:=d7 (.c (.r (.v (.string r))):X);rw[←hX];refine cw (rvs:=rv19) (j:=(ir19 bI)) Tryd.func19 rfl (by kernel_rfl) (nb rfl) (by kernel_rfl) aq ?_;intro g2 F hg2 hF;obtain rfl:g2=g:=hg2.unique.trans hg.symm;clear hg2;obtain⟨_⟩:=g2;obtain⟨_⟩:=t;unfold bP at h;try dsimp only at h
 obtain⟨s_k0,hs_k0⟩:∃s,bI=s:=⟨_,rfl⟩;try rw[hs_k0] at h
 rw[hs_k0];cbv;obtain⟨x1,hx1,h⟩:=bp h;try dsimp only at h
 refine ACall.mk _ _ rfl (hF _ _ _ (fG hg ht hx1)) (.inl rfl) (nb rfl) ?_;cbv;obtain rfl:=Option.some.inj h;exact ARet.mk trivial hX.symm
def ir14 (s_k0 s_k4:ByteArray):J:=js [jq 1 (.box 0),jq 2 (.mv (.k (.c (.r (.v (.string s_k0))))))] [1] (.seq (.reg (some [[],[0],[0,1],[0,1,2],[],[4],[0,1,2,4,5],[0,1,2,3,4,5,6],[0,1,2,3,4,5,6,7]]) [jf 3 0 1,jk 4 3,jc 5 19 [4],jq 6 (.bin .add .s 5 (.k (.c (.r (.v (.string s_k4)))))),jf 7 1 1,jk 8 7,jc 9 19 [8],jb 10 .add .s 6 9,jm 2 10] [2]) .ret)
def rv14:List RV:=[.t 2]
def cZ (g:G) (t:TE) (a0:Trip):Option ByteArray:=
 cl (bP g t a0.Leg) fun x1=>
 gd ((x1.size+cF.size≤70368744177664))<|
 cl (bP g t a0.Day) fun x2=>
 gd (((g.cat x1 cF).size+x2.size≤70368744177664))<|
 some (g.cat (g.cat x1 cF) x2)
theorem jX {g:G} {t:TE} {a0:Trip} {r:ByteArray} (hg:g=G.real) (ht:t=TE.real) (h:cZ g t a0=some r):Fn Tryd.prog 14 [.g (Trip.rs t a0)] (.c (.r (.v (.string r)))):=by
 obtain⟨X,hX⟩:=d7 (.c (.r (.v (.string r))):X);rw[←hX];refine cw (rvs:=rv14) (j:=(ir14 bI cF)) Tryd.func14 rfl (by kernel_rfl) (nb rfl) (by kernel_rfl) aq ?_;intro g2 F hg2 hF;obtain rfl:g2=g:=hg2.unique.trans hg.symm;clear hg2;obtain⟨_⟩:=g2;obtain⟨_⟩:=t;obtain⟨a0_Leg,a0_Day⟩:=a0
 unfold cZ at h;try dsimp only at h
 obtain⟨s_k0,hs_k0⟩:∃s,bI=s:=⟨_,rfl⟩;try rw[hs_k0] at h
 rw[hs_k0];obtain⟨s_k4,hs_k4⟩:∃s,cF=s:=⟨_,rfl⟩;try rw[hs_k4] at h
 rw[hs_k4];cbv;obtain⟨x1,hx1,h⟩:=bp h;try dsimp only at h
 refine ACall.mk _ _ rfl (hF _ _ _ (eA hg ht hx1)) (.inl rfl) (nb rfl) ?_;cbv;obtain⟨hc1,h⟩:=bO h;refine AStep.mk (cU hc1) ?_;cbv;obtain⟨x2,hx2,h⟩:=bp h;try dsimp only at h
 refine ACall.mk _ _ rfl (hF _ _ _ (eA hg ht hx2)) (.inl rfl) (nb rfl) ?_;cbv;obtain⟨hc2,h⟩:=bO h;refine AStep.mk (cU hc2) ?_;cbv;obtain rfl:=Option.some.inj h;exact ARet.mk trivial hX.symm
end Go.Vs
namespace Go.Proofs
open Go.Shelf Go.RowKit Go.Lib Go.Sort
set_option maxHeartbeats 2000000
set_option maxRecDepth 100000
def Tryd.lays156_ren : Go.Shelf.Ren := ⟨fun | 156 => 15 | 165 => 20 | 166 => 21 | 169 => 22 | 240 => 25 | 241 => 26 | 276 => 28 | 277 => 29 | n => n, fun | 31 => 22 | 9 => 9 | 3 => 3 | 4 => 4 | 0 => 0 | 20 => 20 | 72 => 50 | 76 => 54 | 70 => 48 | 37 => 45 | 75 => 53 | 127 => 58 | 164 => 59 | 5 => 5 | 80 => 56 | n => n, fun | n => n⟩
theorem Tryd.lays156 : Go.Proofs.Lays.n156 Tryd.prog Tryd.lays156_ren := {
  mixed := by kernel_rfl
  f156 := Tryd.func15.trans (congrArg some (by kernel_rfl))
  f165 := Tryd.func20.trans (congrArg some (by kernel_rfl))
  f166 := Tryd.func21.trans (congrArg some (by kernel_rfl))
  f169 := Tryd.func22.trans (congrArg some (by kernel_rfl))
  f240 := Tryd.func25.trans (congrArg some (by kernel_rfl))
  f241 := Tryd.func26.trans (congrArg some (by kernel_rfl))
  f276 := Tryd.func28.trans (congrArg some (by kernel_rfl))
  f277 := Tryd.func29.trans (congrArg some (by kernel_rfl))
  t0 := Tryd.underlying0
  a0 := Tryd.isAgg0
  z0 := Tryd.sizeOf0
  v0 := Tryd.zeroValue0
  t3 := Tryd.underlying3
  a3 := Tryd.isAgg3
  z3 := Tryd.sizeOf3
  v3 := Tryd.zeroValue3
  t4 := Tryd.underlying4
  a4 := Tryd.isAgg4
  z4 := Tryd.sizeOf4
  v4 := Tryd.zeroValue4
  t9 := Tryd.underlying9
  a9 := Tryd.isAgg9
  z9 := Tryd.sizeOf9
  v9 := Tryd.zeroValue9
  t20 := Tryd.underlying20
  a20 := Tryd.isAgg20
  z20 := Tryd.sizeOf20
  v20 := Tryd.zeroValue20
  t31 := Tryd.underlying22
  a31 := Tryd.isAgg22
  z31 := Tryd.sizeOf22
  v31 := Tryd.zeroValue22
  t37 := Tryd.underlying45
  a37 := Tryd.isAgg45
  z37 := Tryd.sizeOf45
  v37 := Tryd.zeroValue45
  t70 := Tryd.underlying48
  a70 := Tryd.isAgg48
  z70 := Tryd.sizeOf48
  v70 := Tryd.zeroValue48
  t72 := Tryd.underlying50
  a72 := Tryd.isAgg50
  z72 := Tryd.sizeOf50
  v72 := Tryd.zeroValue50
  t75 := Tryd.underlying53
  a75 := Tryd.isAgg53
  z75 := Tryd.sizeOf53
  v75 := Tryd.zeroValue53
  t76 := Tryd.underlying54
  a76 := Tryd.isAgg54
  z76 := Tryd.sizeOf54
  v76 := Tryd.zeroValue54
  t127 := Tryd.underlying58
  a127 := Tryd.isAgg58
  z127 := Tryd.sizeOf58
  v127 := Tryd.zeroValue58
  t164 := Tryd.underlying59
  a164 := Tryd.isAgg59
  z164 := Tryd.sizeOf59
  v164 := Tryd.zeroValue59 }
theorem Tryd.joinN:Tryd.lays156_ren.f 156=15:=by kernel_rfl
theorem Tryd.Builder_Extra_156:Builder.Extra Tryd.prog Tryd.lays156_ren :={
 sizeBuilder:=by kernel_rfl
 liesBuilder:=by kernel_rfl
 t5:=by kernel_rfl
 a5:=fun _=>by kernel_rfl
 z5:=fun _=>by kernel_rfl
 v5:=fun _=>by kernel_rfl
 infoByte:=by kernel_rfl
 cellsByte:=by kernel_rfl
 sizeByte:=by kernel_rfl
 neB5:=by decide }
end Go.Proofs
namespace Go.Vs
open Go Go.Proofs Go.RowKit
def cV (g:G) (t:TE) (a0:List ByteArray) (a1:ByteArray):Option ByteArray:=gd (a0.length≤140737488355328∧(Lib.join (a0.map (·.data.toList)) a1.data.toList).length≤140737488355328)<|some ⟨(Lib.join (a0.map (·.data.toList)) a1.data.toList).toArray⟩
theorem fI {g:G} {t:TE} {a0:List ByteArray} {a1 r:ByteArray} (hg:g=G.real) (ht:t=TE.real) (h:cV g t a0 a1=some r):Fn Tryd.prog 15 [.c (.s 1 (t.r_S a0)),.c (.v (.string a1))] (.c (.r (.v (.string r)))):=by
 obtain⟨⟨h0,h1⟩,h⟩:=bO h;cases h
 subst ht;have k0:=fun a c sep w=>Any.strings_Join_none Tryd.lays156 Tryd.Builder_Extra_156 a c sep w
 have k1:=fun bk o c xs sep w=>Any.strings_Join Tryd.lays156 Tryd.Builder_Extra_156 bk o c xs sep w
 rw[Tryd.joinN] at k0 k1;exact pS k0 k1 a0 a1 h0 h1
set_option maxRecDepth 100000
def ir7 (s_k0 s_k3 s_k5:ByteArray):J:=js [jq 1 (.box 0),jq 2 (.mv (.k (.c (.r (.v (.string s_k0))))))] [1] (js [jq 6 (.bsl 1 []),jf 7 0 1,jk 8 7,jq 9 (.app 1 16 false 6 8),jm 3 9] [1,3] (.seq (js [jf 10 1 1,jk 11 10,jq 12 (.len false 11),jm 13 (ki 0)] [3,11,12,13] (.bl 0 (js [jb 14 .lss .i 13 12] [3,11,12,13,14] (.seq (.cond 14 .skip (.exit 0)) (.seq (.block 1 (js [ja 15 2 11 13,jl 16 2 15,jq 5 (.alloc [.r (.v (.int .i64 0)),.r (.v (.int .i64 0))]),jp (.st 2 5 16)] [3,5,11,12,13] (.reg none [jm 17 3,jl 18 2 5,jc 19 14 [18],jq 20 (.bsl 1 [19]),jq 21 (.app 1 16 true 17 20),jm 3 21] [3,11,12,13]))) (.reg none [jb 22 .add .i 13 (ki 1),jm 13 22] [3,11,12,13])))))) (.seq (js [jm 23 3,jq 24 (.len false 23),jb 25 .eql .i 24 (ki 0)] [3,25] (.cond 25 (js [jq 2 (.mv (.k (.c (.r (.v (.string s_k5))))))] [2] .ret) .skip)) (js [jm 26 3,jc 27 15 [26,(.k (.c (.r (.v (.string s_k3)))))],jm 2 27] [2] .ret))))
def rv7:List RV:=[.t 2]
open Go.Proofs Go.IntWalk
set_option linter.unusedVariables false
set_option maxHeartbeats 4000000
def ax (g:G) (t:TE):List Trip→List ByteArray→Option (List ByteArray)
 |[],w1=>
  some w1
 |z1::ls1,w1=>
  cl (cZ g t z1) fun x1=>
  lP ([x1]) fun(l3:List ByteArray)=>
  gd (((w1.length+l3.length)*16≤70368744177664))<|
  lP (w1++l3) fun(l4:List ByteArray)=>
  ax g t ls1 l4
def bx (g:G) (t:TE) (a0:Belief):Option ByteArray:=
 lP ([]) fun(l1:List ByteArray)=>
 gd (((l1.length+a0.Places.length)*16≤70368744177664))<|
 lP (l1++a0.Places) fun(l2:List ByteArray)=>
 cl (ax g t a0.Rides l2) fun y1=>
 br (g.eq (g.int (g.dlen (t.d_S y1))) 0)
 (
  some eM)
 (
  cl (cV g t y1 bE) fun x2=>
  some x2)
theorem fR {g:G} {t:TE} {a0:Belief} {r:ByteArray} (hg:g=G.real) (ht:t=TE.real) (h:bx g t a0=some r):Fn Tryd.prog 7 [.g (Belief.rs t a0)] (.c (.r (.v (.string r)))):=by
 obtain⟨X,hX⟩:=d7 (.c (.r (.v (.string r))):X);rw[←hX];refine cw (rvs:=rv7) (j:=(ir7 bI bE eM)) Tryd.func7 rfl (by kernel_rfl) (nb rfl) (by kernel_rfl) aq ?_;intro g2 F hg2 hF;obtain rfl:g2=g:=hg2.unique.trans hg.symm;clear hg2;obtain⟨wrap,lt,_,eq,_,_,_,_,_,_,_,_,int,add,_,_,_,_,_,_,_,llen,_,_,dlen,_,_,_,rd⟩:=g2;obtain⟨r_S,d_S,r_Trip⟩:=t;obtain⟨a0_Places,a0_Rides⟩:=a0
 unfold bx at h;try dsimp only at h
 obtain⟨s_k0,hs_k0⟩:∃s,bI=s:=⟨_,rfl⟩;try rw[hs_k0] at h
 rw[hs_k0];obtain⟨s_k3,hs_k3⟩:∃s,bE=s:=⟨_,rfl⟩;try rw[hs_k3] at h
 rw[hs_k3];obtain⟨s_k5,hs_k5⟩:∃s,eM=s:=⟨_,rfl⟩;try rw[hs_k5] at h
 rw[hs_k5];cbv;obtain⟨l1,hl1,h⟩:=cI h;try dsimp only at h
 refine ANew.mk (d_S l1) (dlen (d_S l1)) (by rw[←hl1];exact qn hg ht []) (by rw[←hl1];exact pl hg ht []) ?_;cbv;obtain⟨hc2,h⟩:=bO h;refine AStep.mk (lE hg ht (bZ hg ht _) (qX hg ht _) hc2) ?_;cbv;obtain⟨l2,hl2,h⟩:=cI h;try dsimp only at h
 refine ANew.mk (d_S l2) (dlen (d_S l2)) (by rw[←hl2];exact ql hg ht (bZ hg ht _) (qX hg ht _)) (by rw[←hl2];exact pz hg ht (bZ hg ht _) (qX hg ht _)) ?_;cbv;obtain⟨o1,ho1,h⟩:=bp h;try dsimp only at h
 try rw[hg] at ho1
 try rw[ht] at ho1
 refine ABL.mk {p:Nat×Int×List ByteArray//p.1≤a0_Rides.length∧p.2.1=((p.1:Nat):Int)∧ax G.real TE.real (List.drop p.1 a0_Rides) p.2.2=some o1} (fun⟨⟨k1,v1,w1⟩,_⟩=>({sl:=[(3,.c (.f 0 1 0 (dlen (d_S w1)))),(11,.c (.r (.s 2 (r_Trip a0_Rides)))),(12,.c (.r (.v (.int .i64 (llen (r_Trip a0_Rides)))))),(13,.c (.r (.v (.int .i64 v1))))],tab:=[(0,some (.arr 1 (d_S w1)))]}:St)) 1 (fun p=>a0_Rides.length-p.1.1) ⟨(0,0,l2),Nat.zero_le _,rfl,ho1⟩ (List ByteArray) (fun y1=>({sl:=[(3,.c (.f 0 1 0 (dlen (d_S y1))))],tab:=[(0,some (.arr 1 (d_S y1)))]}:St)) 1 (fun y=>o1=y) ?_ ?_ ?_
 ·refine Wk.of [(0,some 80)] rfl rfl ?_ ?_
  ·cbv;all_goals exact⟨⟨_,rfl,rfl⟩,⟨_,rfl,rfl⟩,⟨_,rfl,rfl⟩,⟨_,rfl,rfl⟩,trivial⟩
  cbv;all_goals exact⟨⟨_,rfl,rfl⟩,trivial⟩
 ·rintro⟨⟨k1,v1,w1⟩,hk1,hi1,h_1⟩ hq1;have hm1:=(hq1.1 11 _ _ rfl);try dsimp only at hk1 hi1 h_1
  clear hq1;cbv
  by_cases hc1_:k1<a0_Rides.length
  ·have hb1:lt v1 (llen (r_Trip a0_Rides))=true:=cj hg ht hi1 hc1_;have hs1:=dH hg ht hi1 hc1_ hm1;obtain⟨z1,hz1⟩:=bw hc1_;rw[a7 hz1] at h_1;rw[ax] at h_1;obtain⟨z1_Leg,z1_Day⟩:=z1;try rw[←hg] at h_1
   try rw[←ht] at h_1
   try dsimp only at h_1
   try rw[hs_k0] at h_1
   try rw[hs_k3] at h_1
   try rw[hs_k5] at h_1
   rw[hb1];cbv;refine AStep.mk (hZ hi1) ?_;cbv;refine AGet.mk _ (ct hg ht hi1 hz1) ?_;cbv;obtain⟨x1,hx1,h_1⟩:=bp h_1;try dsimp only at h_1
   refine ACall.mk _ _ rfl (hF _ _ _ (jX hg ht hx1)) (.inl rfl) (nb rfl) ?_;cbv;obtain⟨l3,hl3,h_1⟩:=cI h_1;try dsimp only at h_1
   refine ANew.mk (d_S l3) (dlen (d_S l3)) (by rw[←hl3];exact qn hg ht [x1]) (by rw[←hl3];exact pl hg ht [x1]) ?_;cbv;obtain⟨hc1,h_1⟩:=bO h_1;refine AStep.mk ⟨⟨rfl,(bZ hg ht _)⟩,(lE hg ht (bZ hg ht _) rfl hc1)⟩ ?_;cbv;obtain⟨l4,hl4,h_1⟩:=cI h_1;try dsimp only at h_1
   refine ANew.mk (d_S l4) (dlen (d_S l4)) (by rw[←hl4];exact ql hg ht (bZ hg ht _) rfl) (by rw[←hl4];exact pz hg ht (bZ hg ht _) rfl) ?_;cbv;try rw[hg] at h_1
   try rw[ht] at h_1
   refine⟨⟨(k1+1,(wrap .i64 (add v1 1)),l4),hc1_,hs1,h_1⟩,Wk.of [(0,some 145)] rfl rfl ?_ ?_,d8 hc1_⟩
   ·cbv;all_goals exact⟨⟨_,rfl,rfl⟩,⟨_,rfl,rfl⟩,⟨_,rfl,rfl⟩,⟨_,rfl,rfl⟩,trivial⟩
   cbv;all_goals exact⟨⟨_,rfl,rfl⟩,trivial⟩
  have hb1:lt v1 (llen (r_Trip a0_Rides))=false:=bX hg ht hi1 hc1_;rw[List.drop_of_length_le (Nat.le_of_not_lt hc1_)] at h_1;rw[ax] at h_1;try rw[←hg] at h_1
  try rw[←ht] at h_1
  try dsimp only at h_1
  try rw[hs_k0] at h_1
  try rw[hs_k3] at h_1
  try rw[hs_k5] at h_1
  rw[hb1];cbv;refine⟨w1,Wk.of [(0,some 0)] rfl rfl ?_ ?_,(Option.some.inj h_1).symm⟩
  ·cbv;all_goals exact⟨⟨_,rfl,rfl⟩,trivial⟩
  cbv;all_goals exact⟨⟨_,rfl,rfl⟩,trivial⟩
 rintro y1 hy1;replace hy1:=hy1.symm;subst hy1;try dsimp only[lr,lrL,lrp,fD] at h
 cbv
 cases hb2:(eq (int (dlen (d_S y1))) 0)
 rotate_left
 ·rw[aJ hb2] at h;cbv;obtain rfl:=Option.some.inj h;exact ARet.mk trivial hX.symm
 rw[aw hb2] at h;cbv;refine AStep.mk (ru ht (bZ hg ht _)) ?_;cbv;obtain⟨x2,hx2,h⟩:=bp h;try dsimp only at h
 refine ACall.mk _ _ (by rw[show rd (d_S y1) 0 (dlen (d_S y1))=r_S y1 from rI hg ht (bZ hg ht _)];try rfl) (hF _ _ _ (fI hg ht hx2)) (.inr rfl) (nb rfl) ?_
 cbv;obtain rfl:=Option.some.inj h;exact ARet.mk trivial hX.symm
def ir16:J:=js [jm 4 kf] [0,1] (.seq (js [jm 6 0,jq 7 (.len false 6),jm 8 1,jq 9 (.len false 8),jb 10 .neq .i 7 9] [0,1,10] (.cond 10 (js [jm 4 kf] [4] .ret) .skip)) (.seq (js [jm 5 (ki 0)] [0,1,5] (.bl 0 (.seq (js [jm 11 5,jm 12 0,jq 13 (.len false 12),jb 14 .lss .i 11 13] [0,1,5,14] (.cond 14 .skip (.exit 0))) (.seq (.block 1 (.seq (.reg (some [[],[],[0,1],[0,1,2],[],[],[4,5],[4,5,6],[0,1,2,3,4,5,6,7]]) [jm 17 0,jm 18 5,ja 19 1 17 18,jk 20 19,jm 21 1,jm 22 5,ja 23 1 21 22,jk 24 23,jb 25 .neq .s 20 24] [0,1,5,25]) (.cond 25 (js [jm 4 kf] [4] .ret) .skip))) (.reg none [jm 15 5,jb 16 .add .i 15 (ki 1),jm 5 16] [0,1,5]))))) (js [jm 4 kt] [4] .ret)))
def rv16:List RV:=[.t 4]
def aQ (g:G) (t:TE) (a1:List ByteArray):List ByteArray→Int→Option (LR Bool Unit)
 |[],v1=>
  some (LR.out ())
 |z1::ls1,v1=>
  gt a1 (g.nat v1) fun x1=>
  br (g.seq z1 x1)
  (
   aQ g t a1 ls1 (g.wrap .i64 (g.add v1 1)))
  (
   some (LR.ret false))
def cr (g:G) (t:TE) (a0:List ByteArray) (a1:List ByteArray):Option Bool:=
 br (g.eq (g.llen (t.r_S a0)) (g.llen (t.r_S a1)))
 (
  cl (aQ g t a1 a0 0) fun o1=>lr o1 fun y1=>
  some true)
 (
  some false)
theorem iQ {g:G} {t:TE} {a0:List ByteArray} {a1:List ByteArray} {r:Bool} (hg:g=G.real) (ht:t=TE.real) (h:cr g t a0 a1=some r):Fn Tryd.prog 16 [.c (.s 1 (t.r_S a0)),.c (.s 1 (t.r_S a1))] (.c (.r (.v (.bool r)))):=by
 obtain⟨X,hX⟩:=d7 (.c (.r (.v (.bool r))):X);rw[←hX];refine cw (rvs:=rv16) (j:=ir16) Tryd.func16 rfl (by kernel_rfl) (nb rfl) (by kernel_rfl) aq ?_;intro g2 F hg2 hF;obtain rfl:g2=g:=hg2.unique.trans hg.symm;clear hg2;obtain⟨wrap,lt,_,eq,_,_,_,_,_,_,_,_,_,add,_,_,_,seq,_,_,_,llen⟩:=g2;obtain⟨r_S⟩:=t;unfold cr at h;try dsimp only at h
 cbv
 cases hb1:(eq (llen (r_S a0)) (llen (r_S a1)))
 ·rw[aw hb1] at h;cbv;obtain rfl:=Option.some.inj h;exact ARet.mk trivial hX.symm
 rw[aJ hb1] at h;cbv;obtain⟨o1,ho1,h⟩:=bp h;try dsimp only at h
 try rw[hg] at ho1
 try rw[ht] at ho1
 refine ABL.mk {p:Nat×Int//p.1≤a0.length∧p.2=((p.1:Nat):Int)∧aQ G.real TE.real a1 (List.drop p.1 a0) p.2=some o1} (fun⟨⟨k1,v1⟩,_⟩=>({sl:=[(0,.c (.r (.s 1 (r_S a0)))),(1,.c (.r (.s 1 (r_S a1)))),(5,.c (.r (.v (.int .i64 v1))))],tab:=[]}:St)) 0 (fun p=>a0.length-p.1.1) ⟨(0,0),Nat.zero_le _,rfl,ho1⟩ (Unit) (fun _=>({sl:=[],tab:=[]}:St)) 0 (fun y=>o1=LR.out y) ?_ ?_ ?_
 ·refine Wk.of [] rfl rfl ?_ ?_
  ·cbv;all_goals exact⟨⟨_,rfl,rfl⟩,⟨_,rfl,rfl⟩,⟨_,rfl,rfl⟩,trivial⟩
  cbv;all_goals exact trivial
 ·rintro⟨⟨k1,v1⟩,hk1,hi1,h_1⟩ hq1;have hm1:=(hq1.1 0 _ _ rfl);try dsimp only at hk1 hi1 h_1
  clear hq1;cbv
  by_cases hc1_:k1<a0.length
  ·have hb2:lt v1 (llen (r_S a0))=true:=dT hg ht hi1 hc1_;have hs1:=gK hg ht hi1 hc1_ hm1;obtain⟨z1,hz1⟩:=bw hc1_;rw[a7 hz1] at h_1;rw[aQ] at h_1;try rw[←hg] at h_1
   try rw[←ht] at h_1
   try dsimp only at h_1
   rw[hb2];cbv;refine AStep.mk (hZ hi1) ?_;cbv;refine AGet.mk _ (e7 hg ht hi1 hz1) ?_;cbv;refine AStep.mk (hZ hi1) ?_;cbv;obtain⟨x1,hx1,h_1⟩:=mt h_1;try dsimp only at h_1
   refine AGet.mk _ (mF hg ht hx1) ?_;cbv
   cases hb3:(seq z1 x1)
   ·rw[aw hb3] at h_1;cbv;obtain rfl:=Option.some.inj h_1;try dsimp only[lr,lrL,lrp,fD] at h
    obtain rfl:=Option.some.inj h;exact ARet.mk trivial hX.symm
   rw[aJ hb3] at h_1;cbv;try rw[hg] at h_1
   try rw[ht] at h_1
   refine⟨⟨(k1+1,(wrap .i64 (add v1 1))),hc1_,hs1,h_1⟩,Wk.of [] rfl rfl ?_ ?_,d8 hc1_⟩
   ·cbv;all_goals exact⟨⟨_,rfl,rfl⟩,⟨_,rfl,rfl⟩,⟨_,rfl,rfl⟩,trivial⟩
   cbv;all_goals exact trivial
  have hb2:lt v1 (llen (r_S a0))=false:=c8 hg ht hi1 hc1_;rw[List.drop_of_length_le (Nat.le_of_not_lt hc1_)] at h_1;rw[aQ] at h_1;try rw[←hg] at h_1
  try rw[←ht] at h_1
  try dsimp only at h_1
  rw[hb2];cbv;refine⟨(),Wk.of [] rfl rfl ?_ ?_,(Option.some.inj h_1).symm⟩
  ·cbv;all_goals exact trivial
  cbv;all_goals exact trivial
 rintro _ hy1;replace hy1:=hy1.symm;subst hy1;try dsimp only[lr,lrL,lrp,fD] at h
 cbv;obtain rfl:=Option.some.inj h;exact ARet.mk trivial hX.symm
def ir23:J:=js [jq 2 (.box 0),jq 3 (.box 1),jm 4 kf] [2,3] (.seq (js [jf 5 0 2,jk 6 5,jf 7 0 3,jk 8 7,jb 9 .neq .i 6 8] [2,3,9] (.cond 9 (js [jm 4 kf] [4] .ret) .skip)) (.seq (js [jf 10 1 2,jk 11 10,jf 12 1 3,jk 13 12,jb 14 .neq .i 11 13] [14] (.cond 14 (js [jm 4 kf] [4] .ret) .skip)) (js [jm 4 kt] [4] .ret)))
def rv23:List RV:=[.t 4]
def dY (g:G) (t:TE) (a0:Trip) (a1:Trip):Bool:=
 br (g.eq a0.Leg a1.Leg)
 (
  br (g.eq a0.Day a1.Day)
  (
   true)
  (
   false))
 (
  false)
theorem lZ {g:G} {t:TE} {a0:Trip} {a1:Trip} {r:Bool} (hg:g=G.real) (ht:t=TE.real) (h:dY g t a0 a1=r):Fn Tryd.prog 23 [.g (Trip.rs t a0),.g (Trip.rs t a1)] (.c (.r (.v (.bool r)))):=by
 obtain⟨X,hX⟩:=d7 (.c (.r (.v (.bool r))):X);rw[←hX];refine cw (rvs:=rv23) (j:=ir23) Tryd.func23 rfl (by kernel_rfl) (nb rfl) (by kernel_rfl) aq ?_;intro g2 F hg2 hF;obtain rfl:g2=g:=hg2.unique.trans hg.symm;clear hg2;obtain⟨_,_,_,eq⟩:=g2;obtain⟨_⟩:=t;obtain⟨a0_Leg,a0_Day⟩:=a0;obtain⟨a1_Leg,a1_Day⟩:=a1
 unfold dY at h;try dsimp only at h
 cbv
 cases hb1:(eq a0_Leg a1_Leg)
 ·rw[aw hb1] at h;cbv;subst h;exact ARet.mk trivial hX.symm
 rw[aJ hb1] at h;cbv
 cases hb2:(eq a0_Day a1_Day)
 rotate_left
 ·rw[aJ hb2] at h;cbv;subst h;exact ARet.mk trivial hX.symm
 rw[aw hb2] at h;cbv;subst h;exact ARet.mk trivial hX.symm
def ir17:J:=js [jm 4 kf] [0,1] (.seq (js [jm 6 0,jq 7 (.len false 6),jm 8 1,jq 9 (.len false 8),jb 10 .neq .i 7 9] [0,1,10] (.cond 10 (js [jm 4 kf] [4] .ret) .skip)) (.seq (js [jm 5 (ki 0)] [0,1,5] (.bl 0 (.seq (js [jm 11 5,jm 12 0,jq 13 (.len false 12),jb 14 .lss .i 11 13] [0,1,5,14] (.cond 14 .skip (.exit 0))) (.seq (.block 1 (.seq (.reg (some [[],[],[0,1],[0,1,2],[],[],[4,5],[4,5,6],[0,1,2,3,4,5,6,7],[0,1,2,3,4,5,6,7,8]]) [jm 17 0,jm 18 5,ja 19 2 17 18,jl 20 2 19,jm 21 1,jm 22 5,ja 23 2 21 22,jl 24 2 23,jc 25 23 [20,24],jq 26 (.not 25)] [0,1,5,26]) (.cond 26 (js [jm 4 kf] [4] .ret) .skip))) (.reg none [jm 15 5,jb 16 .add .i 15 (ki 1),jm 5 16] [0,1,5]))))) (js [jm 4 kt] [4] .ret)))
def rv17:List RV:=[.t 4]
def aZ (g:G) (t:TE) (a1:List Trip):List Trip→Int→Option (LR Bool Unit)
 |[],v1=>
  some (LR.out ())
 |z1::ls1,v1=>
  gt a1 (g.nat v1) fun x1=>
  lP (dY g t z1 x1) fun x2=>
  br x2
  (
   aZ g t a1 ls1 (g.wrap .i64 (g.add v1 1)))
  (
   some (LR.ret false))
def dE (g:G) (t:TE) (a0:List Trip) (a1:List Trip):Option Bool:=
 br (g.eq (g.llen (t.r_Trip a0)) (g.llen (t.r_Trip a1)))
 (
  cl (aZ g t a1 a0 0) fun o1=>lr o1 fun y1=>
  some true)
 (
  some false)
theorem kG {g:G} {t:TE} {a0:List Trip} {a1:List Trip} {r:Bool} (hg:g=G.real) (ht:t=TE.real) (h:dE g t a0 a1=some r):Fn Tryd.prog 17 [.c (.s 2 (t.r_Trip a0)),.c (.s 2 (t.r_Trip a1))] (.c (.r (.v (.bool r)))):=by
 obtain⟨X,hX⟩:=d7 (.c (.r (.v (.bool r))):X);rw[←hX];refine cw (rvs:=rv17) (j:=ir17) Tryd.func17 rfl (by kernel_rfl) (nb rfl) (by kernel_rfl) aq ?_;intro g2 F hg2 hF;obtain rfl:g2=g:=hg2.unique.trans hg.symm;clear hg2;obtain⟨wrap,lt,_,eq,_,_,_,_,_,_,_,_,_,add,_,_,_,_,_,_,_,llen⟩:=g2;obtain⟨_,_,r_Trip⟩:=t;unfold dE at h;try dsimp only at h
 cbv
 cases hb1:(eq (llen (r_Trip a0)) (llen (r_Trip a1)))
 ·rw[aw hb1] at h;cbv;obtain rfl:=Option.some.inj h;exact ARet.mk trivial hX.symm
 rw[aJ hb1] at h;cbv;obtain⟨o1,ho1,h⟩:=bp h;try dsimp only at h
 try rw[hg] at ho1
 try rw[ht] at ho1
 refine ABL.mk {p:Nat×Int//p.1≤a0.length∧p.2=((p.1:Nat):Int)∧aZ G.real TE.real a1 (List.drop p.1 a0) p.2=some o1} (fun⟨⟨k1,v1⟩,_⟩=>({sl:=[(0,.c (.r (.s 2 (r_Trip a0)))),(1,.c (.r (.s 2 (r_Trip a1)))),(5,.c (.r (.v (.int .i64 v1))))],tab:=[]}:St)) 0 (fun p=>a0.length-p.1.1) ⟨(0,0),Nat.zero_le _,rfl,ho1⟩ (Unit) (fun _=>({sl:=[],tab:=[]}:St)) 0 (fun y=>o1=LR.out y) ?_ ?_ ?_
 ·refine Wk.of [] rfl rfl ?_ ?_
  ·cbv;all_goals exact⟨⟨_,rfl,rfl⟩,⟨_,rfl,rfl⟩,⟨_,rfl,rfl⟩,trivial⟩
  cbv;all_goals exact trivial
 ·rintro⟨⟨k1,v1⟩,hk1,hi1,h_1⟩ hq1;have hm1:=(hq1.1 0 _ _ rfl);try dsimp only at hk1 hi1 h_1
  clear hq1;cbv
  by_cases hc1_:k1<a0.length
  ·have hb2:lt v1 (llen (r_Trip a0))=true:=cj hg ht hi1 hc1_;have hs1:=dH hg ht hi1 hc1_ hm1;obtain⟨z1,hz1⟩:=bw hc1_;rw[a7 hz1] at h_1;rw[aZ] at h_1;obtain⟨z1_Leg,z1_Day⟩:=z1;try rw[←hg] at h_1
   try rw[←ht] at h_1
   try dsimp only at h_1
   rw[hb2];cbv;refine AStep.mk (hZ hi1) ?_;cbv;refine AGet.mk _ (ct hg ht hi1 hz1) ?_;cbv;refine AStep.mk (hZ hi1) ?_;cbv;obtain⟨x1,hx1,h_1⟩:=mt h_1;obtain⟨x1_Leg,x1_Day⟩:=x1;try dsimp only at h_1
   refine AGet.mk _ (hB hg ht hx1) ?_;cbv;obtain⟨x2,hx2,h_1⟩:=cI h_1;try dsimp only at h_1
   refine ACall.mk _ _ rfl (hF _ _ _ (lZ hg ht hx2)) (.inl rfl) (nb rfl) ?_;cbv
   cases hb3:x2
   ·rw[aw hb3] at h_1;cbv;obtain rfl:=Option.some.inj h_1;try dsimp only[lr,lrL,lrp,fD] at h
    obtain rfl:=Option.some.inj h;exact ARet.mk trivial hX.symm
   rw[aJ hb3] at h_1;cbv;try rw[hg] at h_1
   try rw[ht] at h_1
   refine⟨⟨(k1+1,(wrap .i64 (add v1 1))),hc1_,hs1,h_1⟩,Wk.of [] rfl rfl ?_ ?_,d8 hc1_⟩
   ·cbv;all_goals exact⟨⟨_,rfl,rfl⟩,⟨_,rfl,rfl⟩,⟨_,rfl,rfl⟩,trivial⟩
   cbv;all_goals exact trivial
  have hb2:lt v1 (llen (r_Trip a0))=false:=bX hg ht hi1 hc1_;rw[List.drop_of_length_le (Nat.le_of_not_lt hc1_)] at h_1;rw[aZ] at h_1;try rw[←hg] at h_1
  try rw[←ht] at h_1
  try dsimp only at h_1
  rw[hb2];cbv;refine⟨(),Wk.of [] rfl rfl ?_ ?_,(Option.some.inj h_1).symm⟩
  ·cbv;all_goals exact trivial
  cbv;all_goals exact trivial
 rintro _ hy1;replace hy1:=hy1.symm;subst hy1;try dsimp only[lr,lrL,lrp,fD] at h
 cbv;obtain rfl:=Option.some.inj h;exact ARet.mk trivial hX.symm
def ir8:J:=js [jq 2 (.box 0),jq 3 (.box 1),jm 4 kf] [2,3] (.seq (js [jf 5 0 2,jk 6 5,jf 7 0 3,jk 8 7,jc 9 16 [6,8],jq 10 (.not 9)] [2,3,10] (.cond 10 (js [jm 4 kf] [4] .ret) .skip)) (.seq (js [jf 11 1 2,jk 12 11,jf 13 1 3,jk 14 13,jc 15 17 [12,14],jq 16 (.not 15)] [16] (.cond 16 (js [jm 4 kf] [4] .ret) .skip)) (js [jm 4 kt] [4] .ret)))
def rv8:List RV:=[.t 4]
def cT (g:G) (t:TE) (a0:Belief) (a1:Belief):Option Bool:=
 cl (cr g t a0.Places a1.Places) fun x1=>
 br x1
 (
  cl (dE g t a0.Rides a1.Rides) fun x2=>
  br x2
  (
   some true)
  (
   some false))
 (
  some false)
theorem kn {g:G} {t:TE} {a0:Belief} {a1:Belief} {r:Bool} (hg:g=G.real) (ht:t=TE.real) (h:cT g t a0 a1=some r):Fn Tryd.prog 8 [.g (Belief.rs t a0),.g (Belief.rs t a1)] (.c (.r (.v (.bool r)))):=by
 obtain⟨X,hX⟩:=d7 (.c (.r (.v (.bool r))):X);rw[←hX];refine cw (rvs:=rv8) (j:=ir8) Tryd.func8 rfl (by kernel_rfl) (nb rfl) (by kernel_rfl) aq ?_;intro g2 F hg2 hF;obtain rfl:g2=g:=hg2.unique.trans hg.symm;clear hg2;obtain⟨_⟩:=g2;obtain⟨_⟩:=t;obtain⟨a0_Places,a0_Rides⟩:=a0;obtain⟨a1_Places,a1_Rides⟩:=a1
 unfold cT at h;try dsimp only at h
 cbv;obtain⟨x1,hx1,h⟩:=bp h;try dsimp only at h
 refine ACall.mk _ _ rfl (hF _ _ _ (iQ hg ht hx1)) (.inl rfl) (nb rfl) ?_;cbv
 cases hb1:x1
 ·rw[aw hb1] at h;cbv;obtain rfl:=Option.some.inj h;exact ARet.mk trivial hX.symm
 rw[aJ hb1] at h;cbv;obtain⟨x2,hx2,h⟩:=bp h;try dsimp only at h
 refine ACall.mk _ _ rfl (hF _ _ _ (kG hg ht hx2)) (.inl rfl) (nb rfl) ?_;cbv
 cases hb2:x2
 rotate_left
 ·rw[aJ hb2] at h;cbv;obtain rfl:=Option.some.inj h;exact ARet.mk trivial hX.symm
 rw[aw hb2] at h;cbv;obtain rfl:=Option.some.inj h;exact ARet.mk trivial hX.symm
def ir3:J:=js [jq 1 (.box 0),jm 2 kf] [1] (js [jm 3 (ki 1048576)] [1,3] (js [jl 7 2 1,jm 8 3,jc 9 4 [7,8],jm 3 9] [1,3] (.seq (js [jm 10 3,jb 11 .lss .i 10 (ki 0)] [1,11] (.cond 11 (js [jm 2 kt] [2] .ret) .skip)) (js [jl 12 2 1,jq 13 (.call 6 false [12]),jc 14 5 [13],jm 4 14] [1,4] (js [jl 15 2 1,jq 16 (.call 6 false [15]),jq 5 (.alloc [.n 1,.n 2]),jp (.st 2 5 16)] [1,4,5] (js [jl 17 2 5,jc 18 7 [17],jm 6 18] [1,4,5,6] (.seq (js [jm 19 6,jm 20 4,jb 21 .neq .s 19 20] [1,5,21] (.cond 21 (js [jm 2 kf] [2] .ret) .skip)) (.seq (.seq (.reg (some [[],[],[1],[0,1,2],[0,1,2,3]]) [jl 22 2 5,jl 23 2 1,jq 24 (.call 6 false [23]),jc 25 8 [22,24],jq 26 (.not 25)] [26]) (.cond 26 (js [jm 2 kf] [2] .ret) .skip)) (js [jm 2 kt] [2] .ret)))))))))
def rv3:List RV:=[.t 2]
def aK (g:G) (t:TE) (a0:Belief):Option Bool:=
 lP (cW g t a0 1048576) fun x1=>
 br (g.lt x1 0)
 (
  some true)
 (
  cl (bH g t a0) fun x2=>
  cl (bt g t x2) fun x3=>
  cl (bH g t a0) fun x4=>
  cl (bx g t x4) fun x5=>
  br (g.seq x5 x3)
  (
   cl (bH g t a0) fun x6=>
   cl (cT g t x4 x6) fun x7=>
   br x7
   (
    some true)
   (
    some false))
  (
   some false))
theorem dF {g:G} {t:TE} {a0:Belief} {r:Bool} (hg:g=G.real) (ht:t=TE.real) (h:aK g t a0=some r):Fn Tryd.prog 3 [.g (Belief.rs t a0)] (.c (.r (.v (.bool r)))):=by
 obtain⟨X,hX⟩:=d7 (.c (.r (.v (.bool r))):X);rw[←hX];refine cw (rvs:=rv3) (j:=ir3) Tryd.func3 rfl (by kernel_rfl) (nb rfl) (by kernel_rfl) aq ?_;intro g2 F hg2 hF;obtain rfl:g2=g:=hg2.unique.trans hg.symm;clear hg2;obtain⟨_,lt,_,_,_,_,_,_,_,_,_,_,_,_,_,_,_,seq,_,_,_,_,_,_,_,_,_,_,_,rda⟩:=g2;obtain⟨r_S,d_S,r_Trip,d_Trip⟩:=t;obtain⟨a0_Places,a0_Rides⟩:=a0;have hrda_S:∀l,rda (d_S l)=r_S l:=rA hg ht
 have hrda_Trip:∀l,rda (d_Trip l)=r_Trip l:=oR hg ht;unfold aK at h;try dsimp only at h
 cbv;obtain⟨x1,hx1,h⟩:=cI h;try dsimp only at h
 refine ACall.mk _ _ rfl (hF _ _ _ (kg hg ht hx1)) (.inl rfl) (nb rfl) ?_;cbv
 cases hb1:(lt x1 0)
 rotate_left
 ·rw[aJ hb1] at h;cbv;obtain rfl:=Option.some.inj h;exact ARet.mk trivial hX.symm
 rw[aw hb1] at h;cbv;obtain⟨x2,hx2,h⟩:=bp h;obtain⟨x2_Places,x2_Rides⟩:=x2;try dsimp only at h
 refine ACallR.mk _ _ (.g [.r (.s 1 (r_S x2_Places)),.r (.s 2 (r_Trip x2_Rides))]) rfl (hF _ _ _ (dI hg ht hx2)) (.inl rfl) (nb rfl) (by cbv;(try simp only[hrda_S,hrda_Trip])) ?_;cbv;obtain⟨x3,hx3,h⟩:=bp h;try dsimp only at h
 refine ACall.mk _ _ rfl (hF _ _ _ (fE hg ht hx3)) (.inl rfl) (nb rfl) ?_;cbv;obtain⟨x4,hx4,h⟩:=bp h;obtain⟨x4_Places,x4_Rides⟩:=x4;try dsimp only at h
 refine ACallR.mk _ _ (.g [.r (.s 1 (r_S x4_Places)),.r (.s 2 (r_Trip x4_Rides))]) rfl (hF _ _ _ (dI hg ht hx4)) (.inl rfl) (nb rfl) (by cbv;(try simp only[hrda_S,hrda_Trip])) ?_;cbv;obtain⟨x5,hx5,h⟩:=bp h;try dsimp only at h
 refine ACall.mk _ _ rfl (hF _ _ _ (fR hg ht hx5)) (.inl rfl) (nb rfl) ?_;cbv
 cases hb2:(seq x5 x3)
 ·rw[aw hb2] at h;cbv;obtain rfl:=Option.some.inj h;exact ARet.mk trivial hX.symm
 rw[aJ hb2] at h;cbv;obtain⟨x6,hx6,h⟩:=bp h;obtain⟨x6_Places,x6_Rides⟩:=x6;try dsimp only at h
 refine ACallR.mk _ _ (.g [.r (.s 1 (r_S x6_Places)),.r (.s 2 (r_Trip x6_Rides))]) rfl (hF _ _ _ (dI hg ht hx6)) (.inl rfl) (nb rfl) (by cbv;(try simp only[hrda_S,hrda_Trip])) ?_;cbv;obtain⟨x7,hx7,h⟩:=bp h;try dsimp only at h
 refine ACall.mk _ _ rfl (hF _ _ _ (kn hg ht hx7)) (.inl rfl) (nb rfl) ?_;cbv
 cases hb3:x7
 rotate_left
 ·rw[aJ hb3] at h;cbv;obtain rfl:=Option.some.inj h;exact ARet.mk trivial hX.symm
 rw[aw hb3] at h;cbv;obtain rfl:=Option.some.inj h;exact ARet.mk trivial hX.symm
end Go.Vs
