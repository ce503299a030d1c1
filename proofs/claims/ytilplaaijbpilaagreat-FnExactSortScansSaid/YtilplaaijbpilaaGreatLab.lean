/- Part of the proofs of this seat's laws: Lab. No condition. -/
import Derived.Test.YtilplaaijbpilaaGreatTy
import Derived.Test.YtilplaaijbpilaaGreatTIRall
import Derived.Test.YtilplaaijbpilaaGreatLaa
import Derived.Test.YtilplaaijbpilaaGreatVf
import Derived.Test.YtilplaaijbpilaaGreatVg
import Derived.Sort.Walk0
import Derived.Test.YtilplaaijbpilaaGreatProg
import Derived.Lib.Strings
import Derived.Lib.Slices
import Derived.Lib.Walk
import Derived.Lib.Bytealg
import Derived.Test.YtilplaaijbpilaaGreatVh
import Derived.Shelf.Lay
import Derived.KernelRfl
set_option linter.unusedVariables false
set_option linter.unusedSimpArgs false
set_option linter.unusedSectionVars false
namespace Go.Vs
set_option maxRecDepth 100000
def ir82:J:=js [jq 1 (.box 0),jq 2 (.mv (.k (.c (.n 1))))] [1] (js [jq 9 (.mkm true),jm 3 9] [1,3] (js [jq 10 (.bsl 1 []),jm 4 10] [1,3,4] (.seq (js [jf 11 0 1,jk 12 11,jq 13 (.len false 12),jm 14 (ki 0)] [3,4,12,13,14] (.bl 0 (js [jb 15 .lss .i 14 13] [3,4,12,13,14,15] (.seq (.cond 15 .skip (.exit 0)) (.seq (.block 1 (js [ja 16 6 12 14,jl 17 6 16,jq 6 (.alloc [.r (.v (.string .empty)),.r (.v (.string .empty)),.r (.v (.int .i64 0)),.r (.v (.int .i64 0)),.r (.v (.int .i64 0)),.r (.v (.int .i64 0))]),jp (.st 6 6 17)] [3,4,6,12,13,14] (js [jf 18 0 6,jk 19 18,jf 20 1 6,jk 21 20,jq 22 (.bsl 1 [19,21]),jq 23 (.len false 22),jm 24 (ki 0)] [3,4,12,13,14,22,23,24] (.bl 2 (js [jb 25 .lss .i 24 23] [3,4,12,13,14,22,23,24,25] (.seq (.cond 25 .skip (.exit 2)) (.seq (.block 3 (js [ja 26 1 22 24,jk 27 26,jm 8 27] [3,4,8,12,13,14,22,23,24] (js [jm 28 3,jm 29 8,jq 30 (.mlk true 28 29),jq 31 (.not 30)] [3,4,8,12,13,14,22,23,24,31] (.cond 31 (js [jm 32 3,jm 33 8,jp (.mup true 32 33)] [3,4,8,12,13,14,22,23,24] (.reg none [jm 34 4,jm 35 8,jq 36 (.bsl 1 [35]),jq 37 (.app 1 16 true 34 36),jm 4 37] [3,4,12,13,14,22,23,24])) .skip)))) (.reg none [jb 38 .add .i 24 (ki 1),jm 24 38] [3,4,12,13,14,22,23,24])))))))) (.reg none [jb 39 .add .i 14 (ki 1),jm 14 39] [3,4,12,13,14])))))) (js [jm 40 4,jq 41 (.callm 120 40 [])] [4] (js [jm 42 4,jm 2 42] [2] .ret)))))
def rv82:List RV:=[.t 2]
open Go.Proofs Go.IntWalk
set_option linter.unusedVariables false
set_option maxHeartbeats 4000000
def dq (g:G) (t:TE) (l2:List ByteArray):Nat→Int→List ByteArray→List ByteArray→Option ((List ByteArray)×List ByteArray)
 |0,v2,w3,w4=>
  some (w3,w4)
 |n2+1,v2,w3,w4=>
  gt l2 (g.nat v2) fun x1=>
  br (g.hasS w3 x1)
  (
   dq g t l2 n2 (g.wrap .i64 (g.add v2 1)) w3 w4)
  (
   lP ([x1]) fun(l3:List ByteArray)=>
   gd (((w4.length+l3.length)*16≤70368744177664))<|
   lP (w4++l3) fun(l4:List ByteArray)=>
   dq g t l2 n2 (g.wrap .i64 (g.add v2 1)) (g.putS w3 x1) l4)
def ez (g:G) (t:TE):List Leg→List ByteArray→List ByteArray→Option (List ByteArray)
 |[],w1,w2=>
  some w2
 |z1::ls1,w1,w2=>
  lP ([z1.From,z1.To]) fun(l2:List ByteArray)=>
  gd (((g.int (g.dlen (t.d_S l2)))≤9223372036854775807))<|
  cl (dq g t l2 (ay 0 (g.int (g.dlen (t.d_S l2)))) 0 w1 w2) fun y1=>
  ez g t ls1 y1.1 y1.2
def eK (g:G) (t:TE) (a0:Network):Option (List ByteArray):=
 lP ([]) fun(l1:List ByteArray)=>
 cl (ez g t a0.Legs [] l1) fun y2=>
 cl (lD g t y2) fun x2=>
 gd ((x2.length=y2.length))<|
 some x2
theorem gg {g:G} {t:TE} {a0:Network} {r:List ByteArray} (hg:g=G.real) (ht:t=TE.real) (h:eK g t a0=some r):Fn Tryz.prog 82 [.g (Network.rs t a0)] (.c (.o 1 (t.d_S r))):=by
 obtain⟨X,hX⟩:=aH (.c (.o 1 (t.d_S r)):X);rw[←hX];refine aw (rvs:=rv82) (j:=ir82) Tryz.func82 rfl (by kernel_rfl) (nb rfl) (by kernel_rfl) af ?_;intro g2 F hg2 hF;obtain rfl:g2=g:=hg2.unique.trans hg.symm;clear hg2;obtain⟨wrap,lt,_,_,_,_,_,_,_,_,_,_,int,add,_,_,_,_,_,_,_,llen,_,_,dlen,_,_,_,_,_,_,_,_,_,_,_,_,_,hasS,putS⟩:=g2;obtain⟨r_Leg,_,_,_,_,_,_,d_S⟩:=t
 obtain⟨a0_Legs,a0_Off,a0_Change⟩:=a0;unfold eK at h;try dsimp only at h
 cbv;obtain⟨l1,hl1,h⟩:=ak h;try dsimp only at h
 refine ANew.mk (d_S l1) (dlen (d_S l1)) (by rw[←hl1];exact jG hg ht []) (by rw[←hl1];exact gD hg ht []) ?_;cbv;obtain⟨o1,ho1,h⟩:=ac h;try dsimp only at h
 try rw[hg] at ho1
 try rw[ht] at ho1
 refine ABL.mk {p:Nat×Int×(List ByteArray)×List ByteArray//p.1≤a0_Legs.length∧p.2.1=((p.1:Nat):Int)∧ez G.real TE.real (List.drop p.1 a0_Legs) p.2.2.1 p.2.2.2=some o1} (fun⟨⟨k1,v1,w1,w2⟩,_⟩=>({sl:=[(3,.c (.m 0)),(4,.c (.f 1 1 0 (dlen (d_S w2)))),(12,.c (.r (.s 6 (r_Leg a0_Legs)))),(13,.c (.r (.v (.int .i64 (llen (r_Leg a0_Legs)))))),(14,.c (.r (.v (.int .i64 v1))))],tab:=[(0,some (.ms w1)),(1,some (.arr 1 (d_S w2)))]}:St)) 2 (fun p=>a0_Legs.length-p.1.1) ⟨(0,0,[],l1),Nat.zero_le _,rfl,ho1⟩ (List ByteArray) (fun y2=>({sl:=[(4,.c (.f 0 1 0 (dlen (d_S y2))))],tab:=[(0,some (.arr 1 (d_S y2)))]}:St)) 1 (fun y=>o1=y) ?_ ?_ ?_
 ·refine Wk.of [(0,some 32),(1,some 64)] rfl rfl ?_ ?_
  ·cbv;all_goals exact⟨⟨_,rfl,rfl⟩,⟨_,rfl,rfl⟩,⟨_,rfl,rfl⟩,⟨_,rfl,rfl⟩,⟨_,rfl,rfl⟩,trivial⟩
  cbv;all_goals exact⟨⟨_,rfl,rfl⟩,⟨_,rfl,rfl⟩,trivial⟩
 ·rintro⟨⟨k1,v1,w1,w2⟩,hk1,hi1,h_1⟩ hq1;have hm1:=(hq1.1 12 _ _ rfl);try dsimp only at hk1 hi1 h_1
  clear hq1;cbv
  by_cases hc1_:k1<a0_Legs.length
  ·have hb1:lt v1 (llen (r_Leg a0_Legs))=true:=dw hg ht hi1 hc1_;have hs1:=gw hg ht hi1 hc1_ hm1;obtain⟨z1,hz1⟩:=aL hc1_;rw[aD hz1] at h_1;rw[ez] at h_1;obtain⟨z1_From,z1_To,z1_Start,z1_Takes,z1_Days,z1_Room⟩:=z1;try rw[←hg] at h_1
   try rw[←ht] at h_1
   try dsimp only at h_1
   rw[hb1];cbv;refine AStep.mk (eO hi1) ?_;cbv;refine AGet.mk _ (fS hg ht hi1 hz1) ?_;cbv;obtain⟨l2,hl2,h_1⟩:=ak h_1;try dsimp only at h_1
   refine ANew.mk (d_S l2) (dlen (d_S l2)) (by rw[←hl2];exact jG hg ht [z1_From,z1_To]) (by rw[←hl2];exact gD hg ht [z1_From,z1_To]) ?_;cbv;obtain⟨hB2,h_1⟩:=al h_1;obtain⟨o2,ho2,h_1⟩:=ac h_1;try dsimp only at h_1
   try rw[hg] at ho2
   try rw[ht] at ho2
   refine ABL.mk {p:Nat×Int×(List ByteArray)×List ByteArray//p.1=ay p.2.1 (int (dlen (d_S l2)))∧0≤p.2.1∧dq G.real TE.real l2 p.1 p.2.1 p.2.2.1 p.2.2.2=some o2} (fun⟨⟨n2,v2,w3,w4⟩,_⟩=>({sl:=[(3,.c (.m 0)),(4,.c (.f 1 1 0 (dlen (d_S w4)))),(12,.c (.r (.s 6 (r_Leg a0_Legs)))),(13,.c (.r (.v (.int .i64 (llen (r_Leg a0_Legs)))))),(14,.c (.r (.v (.int .i64 v1)))),(22,.c (.f 2 1 0 (dlen (d_S l2)))),(23,.c (.r (.v (.int .i64 (int (dlen (d_S l2))))))),(24,.c (.r (.v (.int .i64 v2))))],tab:=[(0,some (.ms w3)),(1,some (.arr 1 (d_S w4))),(2,some (.arr 1 (d_S l2)))]}:St)) 3 (fun p=>p.1.1) ⟨(ay 0 (int (dlen (d_S l2))),0,w1,w2),rfl,Int.le_refl _,ho2⟩ ((List ByteArray)×List ByteArray) (fun⟨y1_1,y1_2⟩=>({sl:=[(3,.c (.m 0)),(4,.c (.f 1 1 0 (dlen (d_S y1_2)))),(12,.c (.r (.s 6 (r_Leg a0_Legs)))),(13,.c (.r (.v (.int .i64 (llen (r_Leg a0_Legs)))))),(14,.c (.r (.v (.int .i64 v1))))],tab:=[(0,some (.ms y1_1)),(1,some (.arr 1 (d_S y1_2)))]}:St)) 2 (fun y=>o2=y) ?_ ?_ ?_
   ·refine Wk.of [(0,some 0),(1,some 1),(2,some 146)] rfl rfl ?_ ?_
    ·cbv;all_goals exact⟨⟨_,rfl,rfl⟩,⟨_,rfl,rfl⟩,⟨_,rfl,rfl⟩,⟨_,rfl,rfl⟩,⟨_,rfl,rfl⟩,⟨_,rfl,rfl⟩,⟨_,rfl,rfl⟩,⟨_,rfl,rfl⟩,trivial⟩
    cbv;all_goals exact⟨⟨_,rfl,rfl⟩,⟨_,rfl,rfl⟩,⟨_,rfl,rfl⟩,trivial⟩
   ·rintro⟨⟨n2,v2,w3,w4⟩,hn2,hi2,h_2⟩ hq2;try dsimp only at hn2 hi2 h_2
    clear hq2;cbv;rcases n2 with _|n2
    ·have hb2:lt v2 (int (dlen (d_S l2)))=false:=bu hg hn2;rw[dq] at h_2;try rw[←hg] at h_2
     try rw[←ht] at h_2
     try dsimp only at h_2
     rw[hb2];cbv;refine⟨(w3,w4),Wk.of [(0,some 0),(1,some 1)] rfl rfl ?_ ?_,(Option.some.inj h_2).symm⟩
     ·cbv;all_goals exact⟨⟨_,rfl,rfl⟩,⟨_,rfl,rfl⟩,⟨_,rfl,rfl⟩,⟨_,rfl,rfl⟩,⟨_,rfl,rfl⟩,trivial⟩
     cbv;all_goals exact⟨⟨_,rfl,rfl⟩,⟨_,rfl,rfl⟩,trivial⟩
    have hb2:lt v2 (int (dlen (d_S l2)))=true:=bF hg hn2;have hl2:=d8 hn2;have hs2:=cM hg hn2 hi2 hB2 (by decide);rw[dq] at h_2;try rw[←hg] at h_2
    try rw[←ht] at h_2
    try dsimp only at h_2
    rw[hb2];cbv;refine AStep.mk (dR hg hi2 hl2) ?_;cbv;obtain⟨x1,hx1,h_2⟩:=aE h_2;try dsimp only at h_2
    refine AGet.mk _ (g9 hg ht hx1) ?_;cbv
    cases hb3:(hasS w3 x1)
    rotate_left
    ·rw[ab hb3] at h_2;cbv;try rw[hg] at h_2
     try rw[ht] at h_2
     refine⟨⟨(n2,(wrap .i64 (add v2 1)),w3,w4),hs2.1,hs2.2,h_2⟩,Wk.of [(0,some 0),(1,some 1),(2,some 2)] rfl rfl ?_ ?_,Nat.lt_succ_self _⟩
     ·cbv;all_goals exact⟨⟨_,rfl,rfl⟩,⟨_,rfl,rfl⟩,⟨_,rfl,rfl⟩,⟨_,rfl,rfl⟩,⟨_,rfl,rfl⟩,⟨_,rfl,rfl⟩,⟨_,rfl,rfl⟩,⟨_,rfl,rfl⟩,trivial⟩
     cbv;all_goals exact⟨⟨_,rfl,rfl⟩,⟨_,rfl,rfl⟩,⟨_,rfl,rfl⟩,trivial⟩
    rw[aa hb3] at h_2;cbv;obtain⟨l3,hl3,h_2⟩:=ak h_2;try dsimp only at h_2
    refine ANew.mk (d_S l3) (dlen (d_S l3)) (by rw[←hl3];exact jG hg ht [x1]) (by rw[←hl3];exact gD hg ht [x1]) ?_;cbv;obtain⟨hc1,h_2⟩:=al h_2;refine AStep.mk ⟨⟨rfl,(aq hg ht _)⟩,(dF hg ht (aq hg ht _) rfl hc1)⟩ ?_;cbv;obtain⟨l4,hl4,h_2⟩:=ak h_2;try dsimp only at h_2
    refine ANew.mk (d_S l4) (dlen (d_S l4)) (by rw[←hl4];exact kr hg ht (aq hg ht _) rfl) (by rw[←hl4];exact gY hg ht (aq hg ht _) rfl) ?_;cbv;try rw[hg] at h_2
    try rw[ht] at h_2
    refine⟨⟨(n2,(wrap .i64 (add v2 1)),(putS w3 x1),l4),hs2.1,hs2.2,h_2⟩,Wk.of [(0,some 0),(1,some 227),(2,some 2)] rfl rfl ?_ ?_,Nat.lt_succ_self _⟩
    ·cbv;all_goals exact⟨⟨_,rfl,rfl⟩,⟨_,rfl,rfl⟩,⟨_,rfl,rfl⟩,⟨_,rfl,rfl⟩,⟨_,rfl,rfl⟩,⟨_,rfl,rfl⟩,⟨_,rfl,rfl⟩,⟨_,rfl,rfl⟩,trivial⟩
    cbv;all_goals exact⟨⟨_,rfl,rfl⟩,⟨_,rfl,rfl⟩,⟨_,rfl,rfl⟩,trivial⟩
   rintro⟨y1_1,y1_2⟩ hy2;replace hy2:=hy2.symm;subst hy2;try dsimp only[lr,lrL,lrp,aR] at h_1
   cbv;try rw[hg] at h_1
   try rw[ht] at h_1
   refine⟨⟨(k1+1,(wrap .i64 (add v1 1)),y1_1,y1_2),hc1_,hs1,h_1⟩,Wk.of [(0,some 0),(1,some 1)] rfl rfl ?_ ?_,a8 hc1_⟩
   ·cbv;all_goals exact⟨⟨_,rfl,rfl⟩,⟨_,rfl,rfl⟩,⟨_,rfl,rfl⟩,⟨_,rfl,rfl⟩,⟨_,rfl,rfl⟩,trivial⟩
   cbv;all_goals exact⟨⟨_,rfl,rfl⟩,⟨_,rfl,rfl⟩,trivial⟩
  have hb1:lt v1 (llen (r_Leg a0_Legs))=false:=cR hg ht hi1 hc1_;rw[List.drop_of_length_le (Nat.le_of_not_lt hc1_)] at h_1;rw[ez] at h_1;try rw[←hg] at h_1
  try rw[←ht] at h_1
  try dsimp only at h_1
  rw[hb1];cbv;refine⟨w2,Wk.of [(0,some 1)] rfl rfl ?_ ?_,(Option.some.inj h_1).symm⟩
  ·cbv;all_goals exact⟨⟨_,rfl,rfl⟩,trivial⟩
  cbv;all_goals exact⟨⟨_,rfl,rfl⟩,trivial⟩
 rintro y2 hy1;replace hy1:=hy1.symm;subst hy1;try dsimp only[lr,lrL,lrp,aR] at h
 cbv;refine AStep.mk ⟨rfl,(aq hg ht _)⟩ ?_;cbv;obtain⟨x2,hx2,h⟩:=ac h;try dsimp only at h
 refine ACallM.mk _ _ _ _ rfl rfl (hF _ _ _ (rh hg ht hx2)) rfl (nb rfl) (nb rfl) ?_;cbv;obtain⟨hc2,h⟩:=al h;obtain rfl:=Option.some.inj h;exact ARet.mk ⟨rfl,(lC ht (aq hg ht _) hc2)⟩ hX.symm
def Je:J:=js [jm 6 kf] [0,1,2] (js [jm 7 1,jm 8 0,jb 9 .leq .i 7 8,jm 10 9,ju 11 10 (.mv 0),ju 12 10 (.mv 2),ju 13 10 (.bin .leq .i 11 12),jq 14 (.pick 10 13 kf),jm 6 14] [6] .ret)
def IM:List RV:=[.t 6]
def fA (g:G) (t:TE) (a0:Int) (a1:Int) (a2:Int):Bool:=
 br (g.le a1 a0)
 (
  (g.le a0 a2))
 (
  false)
theorem fU {g:G} {t:TE} {a0:Int} {a1:Int} {a2:Int} {r:Bool} (hg:g=G.real) (ht:t=TE.real) (h:fA g t a0 a1 a2=r):Fn Tryz.prog 104 [.c (.v (.int .i64 a0)),.c (.v (.int .i64 a1)),.c (.v (.int .i64 a2))] (.c (.r (.v (.bool r)))):=by
 obtain⟨X,hX⟩:=aH (.c (.r (.v (.bool r))):X);rw[←hX];refine aw (rvs:=IM) (j:=Je) Tryz.func104 rfl (by kernel_rfl) (nb rfl) (by kernel_rfl) af ?_;intro g2 F hg2 hF;obtain rfl:g2=g:=hg2.unique.trans hg.symm;clear hg2;obtain⟨_,_,le⟩:=g2;obtain⟨_⟩:=t
 unfold fA at h;try dsimp only at h
 cbv
 cases hb1:(le a1 a0)
 rotate_left
 ·rw[ab hb1] at h;cbv;iterate 3 try(rw[hb1];cbv)
  subst h;exact ARet.mk trivial hX.symm
 rw[aa hb1] at h;cbv;iterate 3 try(rw[hb1];cbv)
 subst h;exact ARet.mk trivial hX.symm
def I7:J:=js [jm 2 kf] [0] (.seq (js [jm 3 (ki 0)] [0,3] (.bl 0 (.seq (js [jm 4 3,jm 5 0,jq 6 (.len true 5),jb 7 .lss .i 4 6] [0,3,7] (.cond 7 .skip (.exit 0))) (.seq (.block 1 (js [jm 10 0,jm 11 3,jq 12 (.idx 10 11),jq 13 (.bin .lss .i 12 (.k (.c (.r (.v (.int .u8 65)))))),jm 14 13,jv 15 14 (.mv 0),jv 16 14 (.mv 3),jv 17 14 (.idx 15 16),jv 18 14 (.bin .gtr .i 17 (.k (.c (.r (.v (.int .u8 90)))))),jq 19 (.pick 14 kt 18)] [0,3,19] (.cond 19 (js [jm 2 kf] [2] .ret) .skip))) (.reg none [jm 8 3,jb 9 .add .i 8 (ki 1),jm 3 9] [0,3]))))) (js [jm 20 0,jq 21 (.len true 20),jb 22 .eql .i 21 (ki 3),jm 2 22] [2] .ret))
def Iq:List RV:=[.t 2]
def eY (g:G) (t:TE) (a0:ByteArray):Nat→Int→LR Bool Unit
 |0,v1=>
  (LR.out ())
 |n1+1,v1=>
  br (g.lt (g.byte a0 v1) 65)
  (
   (LR.ret false))
  (
   br (g.lt 90 (g.byte a0 v1))
   (
    (LR.ret false))
   (
    eY g t a0 n1 (g.wrap .i64 (g.add v1 1))))
def lk (g:G) (t:TE) (a0:ByteArray):Option Bool:=
 gd (((g.int (g.slen a0))≤9223372036854775807))<|
 lP (eY g t a0 (ay 0 (g.int (g.slen a0))) 0) fun o1=>lr o1 fun y1=>
 some (g.eq (g.int (g.slen a0)) 3)
theorem rK {g:G} {t:TE} {a0:ByteArray} {r:Bool} (hg:g=G.real) (ht:t=TE.real) (h:lk g t a0=some r):Fn Tryz.prog 143 [.c (.v (.string a0))] (.c (.r (.v (.bool r)))):=by
 obtain⟨X,hX⟩:=aH (.c (.r (.v (.bool r))):X);rw[←hX];refine aw (rvs:=Iq) (j:=I7) Tryz.func143 rfl (by kernel_rfl) (nb rfl) (by kernel_rfl) af ?_;intro g2 F hg2 hF;obtain rfl:g2=g:=hg2.unique.trans hg.symm;clear hg2;obtain⟨wrap,lt,_,_,_,_,_,_,_,_,_,_,int,add,_,_,_,_,_,_,byte,_,_,_,_,_,_,_,_,_,_,_,_,_,_,slen⟩:=g2;obtain⟨_⟩:=t
 unfold lk at h;try dsimp only at h
 cbv;obtain⟨hB1,h⟩:=al h;obtain⟨o1,ho1,h⟩:=ak h;try dsimp only at h
 try rw[hg] at ho1
 try rw[ht] at ho1
 refine ABL.mk {p:Nat×Int//p.1=ay p.2 (int (slen a0))∧0≤p.2∧eY G.real TE.real a0 p.1 p.2=o1} (fun⟨⟨n1,v1⟩,_⟩=>({sl:=[(0,.c (.r (.v (.string a0)))),(3,.c (.r (.v (.int .i64 v1))))],tab:=[]}:St)) 0 (fun p=>p.1.1) ⟨(ay 0 (int (slen a0)),0),rfl,Int.le_refl _,ho1⟩ (Unit) (fun _=>({sl:=[(0,.c (.r (.v (.string a0))))],tab:=[]}:St)) 0 (fun y=>o1=LR.out y) ?_ ?_ ?_
 ·refine Wk.of [] rfl rfl ?_ ?_
  ·cbv;all_goals exact⟨⟨_,rfl,rfl⟩,⟨_,rfl,rfl⟩,trivial⟩
  cbv;all_goals exact trivial
 ·rintro⟨⟨n1,v1⟩,hn1,hi1,h_1⟩ hq1;try dsimp only at hn1 hi1 h_1
  clear hq1;cbv;rcases n1 with _|n1
  ·have hb1:lt v1 (int (slen a0))=false:=bu hg hn1;rw[eY] at h_1;try rw[←hg] at h_1
   try rw[←ht] at h_1
   try dsimp only at h_1
   rw[hb1];cbv;refine⟨(),Wk.of [] rfl rfl ?_ ?_,h_1.symm⟩
   ·cbv;all_goals exact⟨⟨_,rfl,rfl⟩,trivial⟩
   cbv;all_goals exact trivial
  have hb1:lt v1 (int (slen a0))=true:=bF hg hn1;have hl1:=d8 hn1;have hs1:=cM hg hn1 hi1 hB1 (by decide);rw[eY] at h_1;try rw[←hg] at h_1
  try rw[←ht] at h_1
  try dsimp only at h_1
  rw[hb1];cbv;refine AStep.mk (A6 hg hi1 hl1) ?_;cbv
  cases hb2:(lt (byte a0 v1) 65)
  rotate_left
  ·rw[ab hb2] at h_1;cbv;iterate 4 try(rw[hb2];cbv)
   subst h_1;try dsimp only[lr,lrL,lrp,aR] at h
   obtain rfl:=Option.some.inj h;exact ARet.mk trivial hX.symm
  rw[aa hb2] at h_1;cbv;iterate 2 try(rw[hb2];cbv)
  refine AStep.mk (A6 hg hi1 hl1) ?_;cbv;iterate 2 try(rw[hb2];cbv)
  cases hb3:(lt 90 (byte a0 v1))
  rotate_left
  ·rw[ab hb3] at h_1;cbv;subst h_1;try dsimp only[lr,lrL,lrp,aR] at h
   obtain rfl:=Option.some.inj h;exact ARet.mk trivial hX.symm
  rw[aa hb3] at h_1;cbv;try rw[hg] at h_1
  try rw[ht] at h_1
  refine⟨⟨(n1,(wrap .i64 (add v1 1))),hs1.1,hs1.2,h_1⟩,Wk.of [] rfl rfl ?_ ?_,Nat.lt_succ_self _⟩
  ·cbv;all_goals exact⟨⟨_,rfl,rfl⟩,⟨_,rfl,rfl⟩,trivial⟩
  cbv;all_goals exact trivial
 rintro _ hy1;replace hy1:=hy1.symm;subst hy1;try dsimp only[lr,lrL,lrp,aR] at h
 cbv;obtain rfl:=Option.some.inj h;exact ARet.mk trivial hX.symm
def I6:J:=js [jq 1 (.box 0),jm 2 kf] [1] (js [jf 3 0 1,jk 4 3,jc 5 143 [4],jm 6 5,ju 7 6 (.fa 1 1),ju 8 6 (.ld false 1 7),ju 9 6 (.call 143 true [8]),jq 10 (.pick 6 9 kf),jm 11 10,ju 12 11 (.fa 0 1),ju 13 11 (.ld false 1 12),ju 14 11 (.fa 1 1),ju 15 11 (.ld false 1 14),ju 16 11 (.bin .neq .s 13 15),jq 17 (.pick 11 16 kf),jm 18 17,ju 19 18 (.fa 2 1),ju 20 18 (.ld false 1 19),ju 21 18 (.call 104 true [20,(ki 0),(ki 1439)]),jq 22 (.pick 18 21 kf),jm 23 22,ju 24 23 (.fa 3 1),ju 25 23 (.ld false 1 24),ju 26 23 (.call 104 true [25,(ki 1),(ki 4320)]),jq 27 (.pick 23 26 kf),jm 28 27,ju 29 28 (.fa 4 1),ju 30 28 (.ld false 1 29),ju 31 28 (.call 104 true [30,(ki 1),(ki 127)]),jq 32 (.pick 28 31 kf),jm 33 32,ju 34 33 (.fa 5 1),ju 35 33 (.ld false 1 34),ju 36 33 (.call 104 true [35,(ki 0),(ki 1000000)]),jq 37 (.pick 33 36 kf),jm 2 37] [2] .ret)
def Ja:List RV:=[.t 2]
def qM (g:G) (t:TE) (a0:Leg):Option Bool:=
 cl (lk g t a0.From) fun x1=>
 br x1
 (
  cl (lk g t a0.To) fun x2=>
  br x2
  (
   br (g.seq a0.From a0.To)
   (
    some false)
   (
    lP (fA g t a0.Start 0 1439) fun x3=>
    br x3
    (
     lP (fA g t a0.Takes 1 4320) fun x4=>
     br x4
     (
      lP (fA g t a0.Days 1 127) fun x5=>
      br x5
      (
       lP (fA g t a0.Room 0 1000000) fun x6=>
       some x6)
      (
       some false))
     (
      some false))
    (
     some false)))
  (
   some false))
 (
  some false)
theorem Cp {g:G} {t:TE} {a0:Leg} {r:Bool} (hg:g=G.real) (ht:t=TE.real) (h:qM g t a0=some r):Fn Tryz.prog 123 [.g (Leg.rs t a0)] (.c (.r (.v (.bool r)))):=by
 obtain⟨X,hX⟩:=aH (.c (.r (.v (.bool r))):X);rw[←hX];refine aw (rvs:=Ja) (j:=I6) Tryz.func123 rfl (by kernel_rfl) (nb rfl) (by kernel_rfl) af ?_;intro g2 F hg2 hF;obtain rfl:g2=g:=hg2.unique.trans hg.symm;clear hg2;obtain⟨_,_,_,_,_,_,_,_,_,_,_,_,_,_,_,_,_,seq⟩:=g2;obtain⟨_⟩:=t
 obtain⟨a0_From,a0_To,a0_Start,a0_Takes,a0_Days,a0_Room⟩:=a0;unfold qM at h;try dsimp only at h
 cbv;obtain⟨x1,hx1,h⟩:=ac h;try dsimp only at h
 refine ACall.mk _ _ rfl (hF _ _ _ (rK hg ht hx1)) (.inl rfl) (nb rfl) ?_;cbv
 cases hb1:x1
 ·rw[aa hb1] at h;cbv;iterate 3 try(rw[hb1];cbv)
  obtain rfl:=Option.some.inj h;exact ARet.mk trivial hX.symm
 rw[ab hb1] at h;cbv;iterate 2 try(rw[hb1];cbv)
 obtain⟨x2,hx2,h⟩:=ac h;try dsimp only at h
 refine ACall.mk _ _ rfl (hF _ _ _ (rK hg ht hx2)) (.inl rfl) (nb rfl) ?_;cbv;try(rw[hb1];cbv)
 cases hb2:x2
 ·rw[aa hb2] at h;cbv;iterate 5 try(rw[hb2];cbv)
  obtain rfl:=Option.some.inj h;exact ARet.mk trivial hX.symm
 rw[ab hb2] at h;cbv;iterate 5 try(rw[hb2];cbv)
 cases hb3:(seq a0_From a0_To)
 rotate_left
 ·rw[ab hb3] at h;cbv;iterate 3 try(rw[hb3];cbv)
  obtain rfl:=Option.some.inj h;exact ARet.mk trivial hX.symm
 rw[aa hb3] at h;cbv;iterate 2 try(rw[hb3];cbv)
 obtain⟨x3,hx3,h⟩:=ak h;try dsimp only at h
 refine ACall.mk _ _ rfl (hF _ _ _ (fU hg ht hx3)) (.inl rfl) (nb rfl) ?_;cbv;try(rw[hb3];cbv)
 cases hb4:x3
 ·rw[aa hb4] at h;cbv;iterate 3 try(rw[hb4];cbv)
  obtain rfl:=Option.some.inj h;exact ARet.mk trivial hX.symm
 rw[ab hb4] at h;cbv;iterate 2 try(rw[hb4];cbv)
 obtain⟨x4,hx4,h⟩:=ak h;try dsimp only at h
 refine ACall.mk _ _ rfl (hF _ _ _ (fU hg ht hx4)) (.inl rfl) (nb rfl) ?_;cbv;try(rw[hb4];cbv)
 cases hb5:x4
 ·rw[aa hb5] at h;cbv;iterate 3 try(rw[hb5];cbv)
  obtain rfl:=Option.some.inj h;exact ARet.mk trivial hX.symm
 rw[ab hb5] at h;cbv;iterate 2 try(rw[hb5];cbv)
 obtain⟨x5,hx5,h⟩:=ak h;try dsimp only at h
 refine ACall.mk _ _ rfl (hF _ _ _ (fU hg ht hx5)) (.inl rfl) (nb rfl) ?_;cbv;try(rw[hb5];cbv)
 cases hb6:x5
 ·rw[aa hb6] at h;cbv;iterate 3 try(rw[hb6];cbv)
  obtain rfl:=Option.some.inj h;exact ARet.mk trivial hX.symm
 rw[ab hb6] at h;cbv;iterate 2 try(rw[hb6];cbv)
 obtain⟨x6,hx6,h⟩:=ak h;try dsimp only at h
 refine ACall.mk _ _ rfl (hF _ _ _ (fU hg ht hx6)) (.inl rfl) (nb rfl) ?_;cbv;try(rw[hb6];cbv)
 obtain rfl:=Option.some.inj h;exact ARet.mk trivial hX.symm
def ir88:J:=js [jq 1 (.box 0),jm 2 kf] [1] (.seq (js [jf 7 0 1,jk 8 7,jq 9 (.len false 8),jm 10 (ki 0)] [1,8,9,10] (.bl 0 (js [jb 11 .lss .i 10 9] [1,8,9,10,11] (.seq (.cond 11 .skip (.exit 0)) (.seq (.block 1 (js [ja 12 6 8 10,jl 13 6 12,jq 4 (.alloc [.r (.v (.string .empty)),.r (.v (.string .empty)),.r (.v (.int .i64 0)),.r (.v (.int .i64 0)),.r (.v (.int .i64 0)),.r (.v (.int .i64 0))]),jp (.st 6 4 13)] [1,4,8,9,10] (js [jl 14 6 4,jc 15 123 [14],jq 16 (.not 15)] [1,8,9,10,16] (.cond 16 (js [jm 2 kf] [2] .ret) .skip)))) (.reg none [jb 17 .add .i 10 (ki 1),jm 10 17] [1,8,9,10])))))) (.seq (js [jf 18 1 1,jk 19 18,jq 20 (.len false 19),jm 21 (ki 0)] [1,19,20,21] (.bl 2 (js [jb 22 .lss .i 21 20] [1,19,20,21,22] (.seq (.cond 22 .skip (.exit 2)) (.seq (.block 3 (js [jm 23 21,ja 24 1 19 21,jk 25 24,jm 5 23,jm 6 25] [1,5,6,19,20,21] (js [jm 26 6,jc 27 104 [26,(ki 0),(ki 60)],jq 28 (.not 27),jm 29 28,jv 30 29 (.mv 5),jv 31 29 (.bin .gtr .i 30 (ki 0)),jv 32 29 (.mv 31),ju 33 32 (.fa 1 1),ju 34 32 (.ld false 1 33),ju 35 32 (.mv 5),ju 36 32 (.bin .sub .i 35 (ki 1)),ju 37 32 (.ia 1 34 36),ju 38 32 (.ld false 1 37),ju 39 32 (.mv 6),ju 40 32 (.bin .geq .i 38 39),jv 41 29 (.pick 32 40 kf),jq 42 (.pick 29 kt 41)] [1,19,20,21,42] (.cond 42 (js [jm 2 kf] [2] .ret) .skip)))) (.reg none [jb 43 .add .i 21 (ki 1),jm 21 43] [1,19,20,21])))))) (js [jf 44 0 1,jk 45 44,jq 46 (.len false 45),jb 47 .leq .i 46 (ki 20),jm 48 47,ju 49 48 (.fa 1 1),ju 50 48 (.ld false 1 49),ju 51 48 (.len false 50),ju 52 48 (.bin .leq .i 51 (ki 10)),jq 53 (.pick 48 52 kf),jm 54 53,ju 55 54 (.fa 2 1),ju 56 54 (.ld false 1 55),ju 57 54 (.call 104 true [56,(ki 0),(ki 240)]),jq 58 (.pick 54 57 kf),jm 2 58] [2] .ret)))
def rv88:List RV:=[.t 2]
def cZ (g:G) (t:TE) (a0:Network):List Int→Int→Option (LR Bool Unit)
 |[],v2=>
  some (LR.out ())
 |z2::ls2,v2=>
  lP (fA g t z2 0 60) fun x2=>
  br x2
  (
   br (g.lt 0 v2)
   (
    gd (((0:Int)≤(g.wrap .i64 (g.sub v2 1))))<|
    gt a0.Off (g.nat (g.wrap .i64 (g.sub v2 1))) fun x3=>
    br (g.le z2 x3)
    (
     some (LR.ret false))
    (
     cZ g t a0 ls2 (g.wrap .i64 (g.add v2 1))))
   (
    cZ g t a0 ls2 (g.wrap .i64 (g.add v2 1))))
  (
   some (LR.ret false))
def dH (g:G) (t:TE):List Leg→Option (LR Bool Unit)
 |[]=>
  some (LR.out ())
 |z1::ls1=>
  cl (qM g t z1) fun x1=>
  br x1
  (
   dH g t ls1)
  (
   some (LR.ret false))
def eA (g:G) (t:TE) (a0:Network):Option Bool:=
 cl (dH g t a0.Legs) fun o1=>lr o1 fun y1=>
 cl (cZ g t a0 a0.Off 0) fun o2=>lr o2 fun y2=>
 br (g.le (g.llen (t.r_Leg a0.Legs)) 20)
 (
  br (g.le (g.llen (t.r_I64 a0.Off)) 10)
  (
   lP (fA g t a0.Change 0 240) fun x4=>
   some x4)
  (
   some false))
 (
  some false)
theorem iB {g:G} {t:TE} {a0:Network} {r:Bool} (hg:g=G.real) (ht:t=TE.real) (h:eA g t a0=some r):Fn Tryz.prog 88 [.g (Network.rs t a0)] (.c (.r (.v (.bool r)))):=by
 obtain⟨X,hX⟩:=aH (.c (.r (.v (.bool r))):X);rw[←hX];refine aw (rvs:=rv88) (j:=ir88) Tryz.func88 rfl (by kernel_rfl) (nb rfl) (by kernel_rfl) af ?_;intro g2 F hg2 hF;obtain rfl:g2=g:=hg2.unique.trans hg.symm;clear hg2;obtain⟨wrap,lt,le,_,_,_,_,_,_,_,_,_,_,add,_,_,_,_,_,_,_,llen⟩:=g2;obtain⟨r_Leg,_,r_I64⟩:=t
 obtain⟨a0_Legs,a0_Off,a0_Change⟩:=a0;unfold eA at h;try dsimp only at h
 cbv;obtain⟨o1,ho1,h⟩:=ac h;try dsimp only at h
 try rw[hg] at ho1
 try rw[ht] at ho1
 refine ABL.mk {p:Nat×Int//p.1≤a0_Legs.length∧p.2=((p.1:Nat):Int)∧dH G.real TE.real (List.drop p.1 a0_Legs)=some o1} (fun⟨⟨k1,v1⟩,_⟩=>({sl:=[(1,.c (.p 0 3 0 0)),(8,.c (.r (.s 6 (r_Leg a0_Legs)))),(9,.c (.r (.v (.int .i64 (llen (r_Leg a0_Legs)))))),(10,.c (.r (.v (.int .i64 v1))))],tab:=[(0,some (.foc 3 [] [.r (.s 6 (r_Leg a0_Legs)),.r (.s 1 (r_I64 a0_Off)),.r (.v (.int .i64 a0_Change))] []))]}:St)) 1 (fun p=>a0_Legs.length-p.1.1) ⟨(0,0),Nat.zero_le _,rfl,ho1⟩ (Unit) (fun _=>({sl:=[(1,.c (.p 0 3 0 0))],tab:=[(0,some (.foc 3 [] [.r (.s 6 (r_Leg a0_Legs)),.r (.s 1 (r_I64 a0_Off)),.r (.v (.int .i64 a0_Change))] []))]}:St)) 1 (fun y=>o1=LR.out y) ?_ ?_ ?_
 ·refine Wk.of [(0,some 0)] rfl rfl ?_ ?_
  ·cbv;all_goals exact⟨⟨_,rfl,rfl⟩,⟨_,rfl,rfl⟩,⟨_,rfl,rfl⟩,⟨_,rfl,rfl⟩,trivial⟩
  cbv;all_goals exact⟨⟨_,rfl,_,rfl,rfl,rfl,rfl,trivial⟩,trivial⟩
 ·rintro⟨⟨k1,v1⟩,hk1,hi1,h_1⟩ hq1;have hm1:=(hq1.1 8 _ _ rfl);try dsimp only at hk1 hi1 h_1
  clear hq1;cbv
  by_cases hc1_:k1<a0_Legs.length
  ·have hb1:lt v1 (llen (r_Leg a0_Legs))=true:=dw hg ht hi1 hc1_;have hs1:=gw hg ht hi1 hc1_ hm1;obtain⟨z1,hz1⟩:=aL hc1_;rw[aD hz1] at h_1;rw[dH] at h_1;obtain⟨z1_From,z1_To,z1_Start,z1_Takes,z1_Days,z1_Room⟩:=z1;try rw[←hg] at h_1
   try rw[←ht] at h_1
   try dsimp only at h_1
   rw[hb1];cbv;refine AStep.mk (eO hi1) ?_;cbv;refine AGet.mk _ (fS hg ht hi1 hz1) ?_;cbv;obtain⟨x1,hx1,h_1⟩:=ac h_1;try dsimp only at h_1
   refine ACall.mk _ _ rfl (hF _ _ _ (Cp hg ht hx1)) (.inl rfl) (nb rfl) ?_;cbv
   cases hb2:x1
   ·rw[aa hb2] at h_1;cbv;obtain rfl:=Option.some.inj h_1;try dsimp only[lr,lrL,lrp,aR] at h
    obtain rfl:=Option.some.inj h;exact ARet.mk trivial hX.symm
   rw[ab hb2] at h_1;cbv;try rw[hg] at h_1
   try rw[ht] at h_1
   refine⟨⟨(k1+1,(wrap .i64 (add v1 1))),hc1_,hs1,h_1⟩,Wk.of [(0,some 0)] rfl rfl ?_ ?_,a8 hc1_⟩
   ·cbv;all_goals exact⟨⟨_,rfl,rfl⟩,⟨_,rfl,rfl⟩,⟨_,rfl,rfl⟩,⟨_,rfl,rfl⟩,trivial⟩
   cbv;all_goals exact⟨⟨_,rfl,_,rfl,rfl,rfl,rfl,trivial⟩,trivial⟩
  have hb1:lt v1 (llen (r_Leg a0_Legs))=false:=cR hg ht hi1 hc1_;rw[List.drop_of_length_le (Nat.le_of_not_lt hc1_)] at h_1;rw[dH] at h_1;try rw[←hg] at h_1
  try rw[←ht] at h_1
  try dsimp only at h_1
  rw[hb1];cbv;refine⟨(),Wk.of [(0,some 0)] rfl rfl ?_ ?_,(Option.some.inj h_1).symm⟩
  ·cbv;all_goals exact⟨⟨_,rfl,rfl⟩,trivial⟩
  cbv;all_goals exact⟨⟨_,rfl,_,rfl,rfl,rfl,rfl,trivial⟩,trivial⟩
 rintro _ hy1;replace hy1:=hy1.symm;subst hy1;try dsimp only[lr,lrL,lrp,aR] at h
 cbv;obtain⟨o2,ho2,h⟩:=ac h;try dsimp only at h
 try rw[hg] at ho2
 try rw[ht] at ho2
 refine ABL.mk {p:Nat×Int//p.1≤a0_Off.length∧p.2=((p.1:Nat):Int)∧cZ G.real TE.real (Network.mk a0_Legs a0_Off a0_Change) (List.drop p.1 a0_Off) p.2=some o2} (fun⟨⟨k2,v2⟩,_⟩=>({sl:=[(1,.c (.p 0 3 0 0)),(19,.c (.r (.s 1 (r_I64 a0_Off)))),(20,.c (.r (.v (.int .i64 (llen (r_I64 a0_Off)))))),(21,.c (.r (.v (.int .i64 v2))))],tab:=[(0,some (.foc 3 [] [.r (.s 6 (r_Leg a0_Legs)),.r (.s 1 (r_I64 a0_Off)),.r (.v (.int .i64 a0_Change))] []))]}:St)) 1 (fun p=>a0_Off.length-p.1.1) ⟨(0,0),Nat.zero_le _,rfl,ho2⟩ (Unit) (fun _=>({sl:=[(1,.c (.p 0 3 0 0))],tab:=[(0,some (.foc 3 [] [.r (.s 6 (r_Leg a0_Legs)),.r (.s 1 (r_I64 a0_Off)),.r (.v (.int .i64 a0_Change))] []))]}:St)) 1 (fun y=>o2=LR.out y) ?_ ?_ ?_
 ·refine Wk.of [(0,some 0)] rfl rfl ?_ ?_
  ·cbv;all_goals exact⟨⟨_,rfl,rfl⟩,⟨_,rfl,rfl⟩,⟨_,rfl,rfl⟩,⟨_,rfl,rfl⟩,trivial⟩
  cbv;all_goals exact⟨⟨_,rfl,_,rfl,rfl,rfl,rfl,trivial⟩,trivial⟩
 ·rintro⟨⟨k2,v2⟩,hk2,hi2,h_2⟩ hq2;have hm2:=(hq2.1 19 _ _ rfl);try dsimp only at hk2 hi2 h_2
  clear hq2;cbv
  by_cases hc2_:k2<a0_Off.length
  ·have hb3:lt v2 (llen (r_I64 a0_Off))=true:=eX hg ht hi2 hc2_;have hs2:=iY hg ht hi2 hc2_ hm2;obtain⟨z2,hz2⟩:=aL hc2_;rw[aD hz2] at h_2;rw[cZ] at h_2;try rw[←hg] at h_2
   try rw[←ht] at h_2
   try dsimp only at h_2
   rw[hb3];cbv;refine AStep.mk (eO hi2) ?_;cbv;refine AGet.mk _ (gf hg ht hi2 hz2) ?_;cbv;obtain⟨x2,hx2,h_2⟩:=ak h_2;try dsimp only at h_2
   refine ACall.mk _ _ rfl (hF _ _ _ (fU hg ht hx2)) (.inl rfl) (nb rfl) ?_;cbv
   cases hb4:x2
   ·rw[aa hb4] at h_2;cbv;iterate 4 try(rw[hb4];cbv)
    obtain rfl:=Option.some.inj h_2;try dsimp only[lr,lrL,lrp,aR] at h
    obtain rfl:=Option.some.inj h;exact ARet.mk trivial hX.symm
   rw[ab hb4] at h_2;cbv;iterate 2 try(rw[hb4];cbv)
   cases hb5:(lt 0 v2)
   ·rw[aa hb5] at h_2;cbv;iterate 7 try(rw[hb5];cbv)
    try(rw[hb4];cbv)
    try(rw[hb5];cbv)
    try(rw[hb4];cbv)
    try rw[hg] at h_2
    try rw[ht] at h_2
    refine⟨⟨(k2+1,(wrap .i64 (add v2 1))),hc2_,hs2,h_2⟩,Wk.of [(0,some 0)] rfl rfl ?_ ?_,a8 hc2_⟩
    ·cbv;all_goals exact⟨⟨_,rfl,rfl⟩,⟨_,rfl,rfl⟩,⟨_,rfl,rfl⟩,⟨_,rfl,rfl⟩,trivial⟩
    cbv;all_goals exact⟨⟨_,rfl,_,rfl,rfl,rfl,rfl,trivial⟩,trivial⟩
   rw[ab hb5] at h_2;cbv;iterate 4 try(rw[hb5];cbv)
   obtain⟨hc1,h_2⟩:=al h_2;refine AStep.mk hc1 ?_;cbv;obtain⟨x3,hx3,h_2⟩:=aE h_2;try dsimp only at h_2
   refine AGet.mk _ (lf hg ht hx3) ?_;cbv;iterate 3 try(rw[hb5];cbv)
   try(rw[hb4];cbv)
   try(rw[hb5];cbv)
   try(rw[hb4];cbv)
   cases hb6:(le z2 x3)
   rotate_left
   ·rw[ab hb6] at h_2;cbv;obtain rfl:=Option.some.inj h_2;try dsimp only[lr,lrL,lrp,aR] at h
    obtain rfl:=Option.some.inj h;exact ARet.mk trivial hX.symm
   rw[aa hb6] at h_2;cbv;try rw[hg] at h_2
   try rw[ht] at h_2
   refine⟨⟨(k2+1,(wrap .i64 (add v2 1))),hc2_,hs2,h_2⟩,Wk.of [(0,some 0)] rfl rfl ?_ ?_,a8 hc2_⟩
   ·cbv;all_goals exact⟨⟨_,rfl,rfl⟩,⟨_,rfl,rfl⟩,⟨_,rfl,rfl⟩,⟨_,rfl,rfl⟩,trivial⟩
   cbv;all_goals exact⟨⟨_,rfl,_,rfl,rfl,rfl,rfl,trivial⟩,trivial⟩
  have hb3:lt v2 (llen (r_I64 a0_Off))=false:=eB hg ht hi2 hc2_;rw[List.drop_of_length_le (Nat.le_of_not_lt hc2_)] at h_2;rw[cZ] at h_2;try rw[←hg] at h_2
  try rw[←ht] at h_2
  try dsimp only at h_2
  rw[hb3];cbv;refine⟨(),Wk.of [(0,some 0)] rfl rfl ?_ ?_,(Option.some.inj h_2).symm⟩
  ·cbv;all_goals exact⟨⟨_,rfl,rfl⟩,trivial⟩
  cbv;all_goals exact⟨⟨_,rfl,_,rfl,rfl,rfl,rfl,trivial⟩,trivial⟩
 rintro _ hy2;replace hy2:=hy2.symm;subst hy2;try dsimp only[lr,lrL,lrp,aR] at h
 cbv
 cases hb7:(le (llen (r_Leg a0_Legs)) 20)
 ·rw[aa hb7] at h;cbv;iterate 4 try(rw[hb7];cbv)
  obtain rfl:=Option.some.inj h;exact ARet.mk trivial hX.symm
 rw[ab hb7] at h;cbv;iterate 4 try(rw[hb7];cbv)
 cases hb8:(le (llen (r_I64 a0_Off)) 10)
 ·rw[aa hb8] at h;cbv;iterate 3 try(rw[hb8];cbv)
  obtain rfl:=Option.some.inj h;exact ARet.mk trivial hX.symm
 rw[ab hb8] at h;cbv;iterate 2 try(rw[hb8];cbv)
 obtain⟨x4,hx4,h⟩:=ak h;try dsimp only at h
 refine ACall.mk _ _ rfl (hF _ _ _ (fU hg ht hx4)) (.inl rfl) (nb rfl) ?_;cbv;try(rw[hb8];cbv)
 obtain rfl:=Option.some.inj h;exact ARet.mk trivial hX.symm
def ir94:J:=js [jq 3 (.box 0),jm 6 kf] [1,2,3] (.seq (js [jm 9 1,jb 10 .lss .i 9 (ki 0),jm 11 10,jv 12 11 (.mv 1),jv 13 11 (.fa 0 3),jv 14 11 (.ld false 1 13),jv 15 11 (.len false 14),jv 16 11 (.bin .geq .i 12 15),jq 17 (.pick 11 kt 16),jm 18 17,jv 19 18 (.mv 2),jv 20 18 (.call 104 true [19,(ki 0),(ki 60)]),jv 21 18 (.not 20),jq 22 (.pick 18 kt 21),jm 23 22,jv 24 23 (.fa 0 3),jv 25 23 (.ld false 1 24),jv 26 23 (.mv 1),jv 27 23 (.ia 6 25 26),jv 28 23 (.fa 4 27),jv 29 23 (.ld false 1 28),jv 30 23 (.mv 2),jv 31 23 (.bin .rem .i 30 (ki 7)),jv 32 23 (.bin .shr .i 29 31),jv 33 23 (.bin .and .i 32 (ki 1)),jv 34 23 (.bin .eql .i 33 (ki 0)),jq 35 (.pick 23 kt 34)] [2,3,35] (.cond 35 (js [jm 6 kf] [6] .ret) .skip)) (.seq (js [jf 36 1 3,jk 37 36,jq 38 (.len false 37),jm 39 (ki 0)] [2,37,38,39] (.bl 0 (js [jb 40 .lss .i 39 38] [2,37,38,39,40] (.seq (.cond 40 .skip (.exit 0)) (.seq (.block 1 (js [ja 41 1 37 39,jk 42 41,jm 8 42] [2,8,37,38,39] (js [jm 43 8,jm 44 2,jb 45 .eql .i 43 44] [2,37,38,39,45] (.cond 45 (js [jm 6 kf] [6] .ret) .skip)))) (.reg none [jb 46 .add .i 39 (ki 1),jm 39 46] [2,37,38,39])))))) (js [jm 6 kt] [6] .ret)))
def rv94:List RV:=[.t 6]
def i6 (g:G) (t:TE) (a2:Int):List Int→LR Bool Unit
 |[]=>
  (LR.out ())
 |z1::ls1=>
  br (g.eq z1 a2)
  (
   (LR.ret false))
  (
   i6 g t a2 ls1)
def od (g:G) (t:TE) (a0:Network) (a1:Int) (a2:Int):Option Bool:=
 br (g.lt a1 0)
 (
  some false)
 (
  br (g.le (g.llen (t.r_Leg a0.Legs)) a1)
  (
   some false)
  (
   lP (fA g t a2 0 60) fun x1=>
   br x1
   (
    gd (((0:Int)≤a1))<|
    gt a0.Legs (g.nat a1) fun x2=>
    gd (((0:Int)≤(g.rem a2 7)))<|
    br (g.eq (g.band .i64 (g.shr .i64 x2.Days (g.rem a2 7)) 1) 0)
    (
     some false)
    (
     lP (i6 g t a2 a0.Off) fun o1=>lr o1 fun y1=>
     some true))
   (
    some false)))
theorem tV {g:G} {t:TE} {a0:Network} {a1:Int} {a2:Int} {r:Bool} (hg:g=G.real) (ht:t=TE.real) (h:od g t a0 a1 a2=some r):Fn Tryz.prog 94 [.g (Network.rs t a0),.c (.v (.int .i64 a1)),.c (.v (.int .i64 a2))] (.c (.r (.v (.bool r)))):=by
 obtain⟨X,hX⟩:=aH (.c (.r (.v (.bool r))):X);rw[←hX];refine aw (rvs:=rv94) (j:=ir94) Tryz.func94 rfl (by kernel_rfl) (nb rfl) (by kernel_rfl) af ?_;intro g2 F hg2 hF;obtain rfl:g2=g:=hg2.unique.trans hg.symm;clear hg2;obtain⟨wrap,lt,le,eq,_,rem,band,_,_,_,shr,_,_,add,_,_,_,_,_,_,_,llen⟩:=g2;obtain⟨r_Leg,_,r_I64⟩:=t
 obtain⟨a0_Legs,a0_Off,a0_Change⟩:=a0;unfold od at h;try dsimp only at h
 cbv
 cases hb1:(lt a1 0)
 rotate_left
 ·rw[ab hb1] at h;cbv;iterate 5 try(rw[hb1];cbv)
  obtain rfl:=Option.some.inj h;exact ARet.mk trivial hX.symm
 rw[aa hb1] at h;cbv;iterate 5 try(rw[hb1];cbv)
 cases hb2:(le (llen (r_Leg a0_Legs)) a1)
 rotate_left
 ·rw[ab hb2] at h;cbv;iterate 3 try(rw[hb2];cbv)
  obtain rfl:=Option.some.inj h;exact ARet.mk trivial hX.symm
 rw[aa hb2] at h;cbv;try(rw[hb2];cbv)
 obtain⟨x1,hx1,h⟩:=ak h;try dsimp only at h
 refine ACall.mk _ _ rfl (hF _ _ _ (fU hg ht hx1)) (.inl rfl) (nb rfl) ?_;cbv;iterate 2 try(rw[hb2];cbv)
 cases hb3:x1
 ·rw[aa hb3] at h;cbv;iterate 11 try(rw[hb3];cbv)
  obtain rfl:=Option.some.inj h;exact ARet.mk trivial hX.symm
 rw[ab hb3] at h;cbv;iterate 3 try(rw[hb3];cbv)
 obtain⟨hc1,h⟩:=al h;refine AStep.mk hc1 ?_;cbv;obtain⟨x2,hx2,h⟩:=aE h;obtain⟨x2_From,x2_To,x2_Start,x2_Takes,x2_Days,x2_Room⟩:=x2;try dsimp only at h
 refine AGet.mk _ (aF hg ht hx2) ?_;cbv;iterate 4 try(rw[hb3];cbv)
 refine AStep.mk (by decide) ?_;cbv;try(rw[hb3];cbv)
 obtain⟨hc2,h⟩:=al h;refine AStep.mk hc2 ?_;cbv;iterate 3 try(rw[hb3];cbv)
 cases hb4:(eq (band .i64 (shr .i64 x2_Days (rem a2 7)) 1) 0)
 rotate_left
 ·rw[ab hb4] at h;cbv;obtain rfl:=Option.some.inj h;exact ARet.mk trivial hX.symm
 rw[aa hb4] at h;cbv;obtain⟨o1,ho1,h⟩:=ak h;try dsimp only at h
 try rw[hg] at ho1
 try rw[ht] at ho1
 refine ABL.mk {p:Nat×Int//p.1≤a0_Off.length∧p.2=((p.1:Nat):Int)∧i6 G.real TE.real a2 (List.drop p.1 a0_Off)=o1} (fun⟨⟨k1,v1⟩,_⟩=>({sl:=[(2,.c (.r (.v (.int .i64 a2)))),(37,.c (.r (.s 1 (r_I64 a0_Off)))),(38,.c (.r (.v (.int .i64 (llen (r_I64 a0_Off)))))),(39,.c (.r (.v (.int .i64 v1))))],tab:=[]}:St)) 0 (fun p=>a0_Off.length-p.1.1) ⟨(0,0),Nat.zero_le _,rfl,ho1⟩ (Unit) (fun _=>({sl:=[],tab:=[]}:St)) 0 (fun y=>o1=LR.out y) ?_ ?_ ?_
 ·refine Wk.of [] rfl rfl ?_ ?_
  ·cbv;all_goals exact⟨⟨_,rfl,rfl⟩,⟨_,rfl,rfl⟩,⟨_,rfl,rfl⟩,⟨_,rfl,rfl⟩,trivial⟩
  cbv;all_goals exact trivial
 ·rintro⟨⟨k1,v1⟩,hk1,hi1,h_1⟩ hq1;have hm1:=(hq1.1 37 _ _ rfl);try dsimp only at hk1 hi1 h_1
  clear hq1;cbv
  by_cases hc1_:k1<a0_Off.length
  ·have hb5:lt v1 (llen (r_I64 a0_Off))=true:=eX hg ht hi1 hc1_;have hs1:=iY hg ht hi1 hc1_ hm1;obtain⟨z1,hz1⟩:=aL hc1_;rw[aD hz1] at h_1;rw[i6] at h_1;try rw[←hg] at h_1
   try rw[←ht] at h_1
   try dsimp only at h_1
   rw[hb5];cbv;refine AStep.mk (eO hi1) ?_;cbv;refine AGet.mk _ (gf hg ht hi1 hz1) ?_;cbv
   cases hb6:(eq z1 a2)
   rotate_left
   ·rw[ab hb6] at h_1;cbv;subst h_1;try dsimp only[lr,lrL,lrp,aR] at h
    obtain rfl:=Option.some.inj h;exact ARet.mk trivial hX.symm
   rw[aa hb6] at h_1;cbv;try rw[hg] at h_1
   try rw[ht] at h_1
   refine⟨⟨(k1+1,(wrap .i64 (add v1 1))),hc1_,hs1,h_1⟩,Wk.of [] rfl rfl ?_ ?_,a8 hc1_⟩
   ·cbv;all_goals exact⟨⟨_,rfl,rfl⟩,⟨_,rfl,rfl⟩,⟨_,rfl,rfl⟩,⟨_,rfl,rfl⟩,trivial⟩
   cbv;all_goals exact trivial
  have hb5:lt v1 (llen (r_I64 a0_Off))=false:=eB hg ht hi1 hc1_;rw[List.drop_of_length_le (Nat.le_of_not_lt hc1_)] at h_1;rw[i6] at h_1;try rw[←hg] at h_1
  try rw[←ht] at h_1
  try dsimp only at h_1
  rw[hb5];cbv;refine⟨(),Wk.of [] rfl rfl ?_ ?_,h_1.symm⟩
  ·cbv;all_goals exact trivial
  cbv;all_goals exact trivial
 rintro _ hy1;replace hy1:=hy1.symm;subst hy1;try dsimp only[lr,lrL,lrp,aR] at h
 cbv;obtain rfl:=Option.some.inj h;exact ARet.mk trivial hX.symm
def HR:J:=js [jq 3 (.box 0),jm 6 kf] [1,2,3] (js [jl 7 3 3,jc 8 88 [7],jm 9 8,ju 10 9 (.ld true 3 3),ju 11 9 (.mv 1),ju 12 9 (.mv 2),ju 13 9 (.call 94 true [10,11,12]),jq 14 (.pick 9 13 kf),jm 6 14] [6] .ret)
def JA:List RV:=[.t 6]
def qK (g:G) (t:TE) (a0:Network) (a1:Int) (a2:Int):Option Bool:=
 cl (eA g t a0) fun x1=>
 br x1
 (
  cl (od g t a0 a1 a2) fun x2=>
  some x2)
 (
  some false)
theorem z9 {g:G} {t:TE} {a0:Network} {a1:Int} {a2:Int} {r:Bool} (hg:g=G.real) (ht:t=TE.real) (h:qK g t a0 a1 a2=some r):Fn Tryz.prog 126 [.g (Network.rs t a0),.c (.v (.int .i64 a1)),.c (.v (.int .i64 a2))] (.c (.r (.v (.bool r)))):=by
 obtain⟨X,hX⟩:=aH (.c (.r (.v (.bool r))):X);rw[←hX];refine aw (rvs:=JA) (j:=HR) Tryz.func126 rfl (by kernel_rfl) (nb rfl) (by kernel_rfl) af ?_;intro g2 F hg2 hF;obtain rfl:g2=g:=hg2.unique.trans hg.symm;clear hg2;obtain⟨_⟩:=g2;obtain⟨_⟩:=t
 obtain⟨a0_Legs,a0_Off,a0_Change⟩:=a0;unfold qK at h;try dsimp only at h
 cbv;obtain⟨x1,hx1,h⟩:=ac h;try dsimp only at h
 refine ACall.mk _ _ rfl (hF _ _ _ (iB hg ht hx1)) (.inl rfl) (nb rfl) ?_;cbv
 cases hb1:x1
 ·rw[aa hb1] at h;cbv;iterate 4 try(rw[hb1];cbv)
  obtain rfl:=Option.some.inj h;exact ARet.mk trivial hX.symm
 rw[ab hb1] at h;cbv;iterate 3 try(rw[hb1];cbv)
 obtain⟨x2,hx2,h⟩:=ac h;try dsimp only at h
 refine ACall.mk _ _ rfl (hF _ _ _ (tV hg ht hx2)) (.inl rfl) (nb rfl) ?_;cbv;try(rw[hb1];cbv)
 obtain rfl:=Option.some.inj h;exact ARet.mk trivial hX.symm
def ir92:J:=js [jq 2 (.box 0),jq 3 (.box 1),jm 4 kf] [2,3] (js [jl 5 3 2,jf 6 0 3,jk 7 6,jf 8 1 3,jk 9 8,jc 10 126 [5,7,9],jm 4 10] [4] .ret)
def rv92:List RV:=[.t 4]
def ky (g:G) (t:TE) (a0:Network) (a1:Trip):Option Bool:=
 cl (qK g t a0 a1.Leg a1.Day) fun x1=>
 some x1
theorem pQ {g:G} {t:TE} {a0:Network} {a1:Trip} {r:Bool} (hg:g=G.real) (ht:t=TE.real) (h:ky g t a0 a1=some r):Fn Tryz.prog 92 [.g (Network.rs t a0),.g (Trip.rs t a1)] (.c (.r (.v (.bool r)))):=by
 obtain⟨X,hX⟩:=aH (.c (.r (.v (.bool r))):X);rw[←hX];refine aw (rvs:=rv92) (j:=ir92) Tryz.func92 rfl (by kernel_rfl) (nb rfl) (by kernel_rfl) af ?_;intro g2 F hg2 hF;obtain rfl:g2=g:=hg2.unique.trans hg.symm;clear hg2;obtain⟨_⟩:=g2;obtain⟨_⟩:=t
 obtain⟨a0_Legs,a0_Off,a0_Change⟩:=a0;obtain⟨a1_Leg,a1_Day⟩:=a1;unfold ky at h;try dsimp only at h
 cbv;obtain⟨x1,hx1,h⟩:=ac h;try dsimp only at h
 refine ACall.mk _ _ rfl (hF _ _ _ (z9 hg ht hx1)) (.inl rfl) (nb rfl) ?_;cbv;obtain rfl:=Option.some.inj h;exact ARet.mk trivial hX.symm
def HV:J:=js [jq 2 (.box 0),jq 3 (.box 1),jm 4 (ki 0)] [2,3] (.seq (.reg (some [[],[0],[0,1],[],[3],[],[5],[3,4,5,6],[3,4,5,6,7],[3,4,5,6,7,8],[0,1,2,3,4,5,6,7,8,9],[0,1,2,3,4,5,6,7,8,9,10]]) [jf 5 1 3,jk 6 5,jb 7 .mul .i 6 (ki 1440),jf 8 0 2,jk 9 8,jf 10 0 3,jk 11 10,ja 12 6 9 11,jf 13 2 12,jk 14 13,jb 15 .add .i 7 14,jm 4 15] [4]) .ret)
def Jk:List RV:=[.t 4]
def dX (g:G) (t:TE) (a0:Network) (a1:Trip):Option Int:=
 gd (((0:Int)≤a1.Leg))<|
 gt a0.Legs (g.nat a1.Leg) fun x1=>
 some (g.wrap .i64 (g.add (g.wrap .i64 (g.mul a1.Day 1440)) x1.Start))
theorem eL {g:G} {t:TE} {a0:Network} {a1:Trip} {r:Int} (hg:g=G.real) (ht:t=TE.real) (h:dX g t a0 a1=some r):Fn Tryz.prog 105 [.g (Network.rs t a0),.g (Trip.rs t a1)] (.c (.r (.v (.int .i64 r)))):=by
 obtain⟨X,hX⟩:=aH (.c (.r (.v (.int .i64 r))):X);rw[←hX];refine aw (rvs:=Jk) (j:=HV) Tryz.func105 rfl (by kernel_rfl) (nb rfl) (by kernel_rfl) af ?_;intro g2 F hg2 hF;obtain rfl:g2=g:=hg2.unique.trans hg.symm;clear hg2;obtain⟨_⟩:=g2;obtain⟨_⟩:=t
 obtain⟨a0_Legs,a0_Off,a0_Change⟩:=a0;obtain⟨a1_Leg,a1_Day⟩:=a1;unfold dX at h;try dsimp only at h
 cbv;obtain⟨hc1,h⟩:=al h;refine AStep.mk hc1 ?_;cbv;obtain⟨x1,hx1,h⟩:=aE h;obtain⟨x1_From,x1_To,x1_Start,x1_Takes,x1_Days,x1_Room⟩:=x1;try dsimp only at h
 refine AGet.mk _ (aF hg ht hx1) ?_;cbv;obtain rfl:=Option.some.inj h;exact ARet.mk trivial hX.symm
def H2:J:=js [jq 2 (.box 0),jq 3 (.box 1),jm 4 (ki 0)] [2,3] (.seq (.reg (some [[],[],[0,1],[],[3],[],[5],[3,4,5,6],[3,4,5,6,7],[3,4,5,6,7,8],[0,1,2,3,4,5,6,7,8,9],[0,1,2,3,4,5,6,7,8,9,10]]) [jl 5 3 2,jl 6 2 3,jc 7 105 [5,6],jf 8 0 2,jk 9 8,jf 10 0 3,jk 11 10,ja 12 6 9 11,jf 13 3 12,jk 14 13,jb 15 .add .i 7 14,jm 4 15] [4]) .ret)
def It:List RV:=[.t 4]
def iv (g:G) (t:TE) (a0:Network) (a1:Trip):Option Int:=
 cl (dX g t a0 a1) fun x1=>
 gd (((0:Int)≤a1.Leg))<|
 gt a0.Legs (g.nat a1.Leg) fun x2=>
 some (g.wrap .i64 (g.add x1 x2.Takes))
theorem gM {g:G} {t:TE} {a0:Network} {a1:Trip} {r:Int} (hg:g=G.real) (ht:t=TE.real) (h:iv g t a0 a1=some r):Fn Tryz.prog 106 [.g (Network.rs t a0),.g (Trip.rs t a1)] (.c (.r (.v (.int .i64 r)))):=by
 obtain⟨X,hX⟩:=aH (.c (.r (.v (.int .i64 r))):X);rw[←hX];refine aw (rvs:=It) (j:=H2) Tryz.func106 rfl (by kernel_rfl) (nb rfl) (by kernel_rfl) af ?_;intro g2 F hg2 hF;obtain rfl:g2=g:=hg2.unique.trans hg.symm;clear hg2;obtain⟨_⟩:=g2;obtain⟨_⟩:=t
 obtain⟨a0_Legs,a0_Off,a0_Change⟩:=a0;obtain⟨a1_Leg,a1_Day⟩:=a1;unfold iv at h;try dsimp only at h
 cbv;obtain⟨x1,hx1,h⟩:=ac h;try dsimp only at h
 refine ACall.mk _ _ rfl (hF _ _ _ (eL hg ht hx1)) (.inl rfl) (nb rfl) ?_;cbv;obtain⟨hc1,h⟩:=al h;refine AStep.mk hc1 ?_;cbv;obtain⟨x2,hx2,h⟩:=aE h;obtain⟨x2_From,x2_To,x2_Start,x2_Takes,x2_Days,x2_Room⟩:=x2;try dsimp only at h
 refine AGet.mk _ (aF hg ht hx2) ?_;cbv;obtain rfl:=Option.some.inj h;exact ARet.mk trivial hX.symm
def ir67 (s_k0:ByteArray):J:=js [jq 2 (.box 0),jq 3 (.box 1),jm 4 kf] [2,3] (.seq (js [jl 5 3 2,jc 6 88 [5],jq 7 (.not 6),jm 8 7,jv 9 8 (.fa 0 3),jv 10 8 (.ld false 1 9),jv 11 8 (.call 104 true [10,(ki 1),(ki 9999)]),jv 12 8 (.not 11),jq 13 (.pick 8 kt 12),jm 14 13,jv 15 14 (.fa 1 3),jv 16 14 (.ld false 1 15),jv 17 14 (.call 104 true [16,(ki 0),(ki 100000)]),jv 18 14 (.not 17),jq 19 (.pick 14 kt 18)] [2,3,19] (.cond 19 (js [jm 4 kf] [4] .ret) .skip)) (.seq (js [jf 20 2 3,jk 21 20] [2,3,21] (.block 0 (.seq (js [jb 23 .eql .i 21 (ki 1),jm 22 23] [2,3,21,22] (.cond 22 .skip (.reg none [jb 24 .eql .i 21 (ki 4),jm 22 24] [2,3,21,22]))) (.cond 22 (.seq (.reg (some [[],[0],[],[2],[0,1,2,3],[0,1,2,3,4],[0,1,2,3,4,5],[0,1,2,3,4,5,6],[0,1,2,3,4,5,6,7],[0,1,2,3,4,5,6],[0,1,2,3,4,5,6,7,8,9],[0,1,2,3,4,5,6,7,8,9,10],[0,1,2,3,4,5,6,7,8,9,10,11]]) [jl 25 3 2,jc 26 82 [25],jf 27 3 3,jk 28 27,jc 29 81 [26,28],jb 30 .geq .i 29 (ki 0),jm 31 30,ju 32 31 (.fa 4 3),ju 33 31 (.ld true 2 32),ju 34 31 (.bld [.r (.v (.int .i64 0)),.r (.v (.int .i64 0))] []),ju 35 31 (.eqs false [.i,.i] 33 34),jq 36 (.pick 31 35 kf),jm 4 36] [4]) .ret) (js [jb 38 .eql .i 21 (ki 3),jm 37 38] [2,3,21,37] (.cond 37 (.seq (.reg (some [[],[0],[0,1],[0,1,2],[0,1,2,3],[0,1,2,3],[0,1,2,3,5],[0,1,2,3,4,5,6],[0,1,2,3,4,5,6,7],[0,1,2,3,4,5,6,7,8],[0,1,2,3,4,5,6,7,8,9],[0,1,2,3,4,5,6,7,8,9,10],[0,1,2,3,4,5,6,7,8,9],[0,1,2,3,4,5,6,7,8,9],[0,1,2,3,4,5,6,7,8,9,13],[0,1,2,3,4,5,6,7,8,9,12,13,14],[0,1,2,3,4,5,6,7,8,9,10,11,12,13,14,15],[0,1,2,3,4,5,6,7,8,9,10,11,12,13,14,15,16],[0,1,2,3,4,5,6,7,8,9,10,11,12,13,14,15,16,17]]) [jf 39 3 3,jk 40 39,jq 41 (.bin .eql .s 40 (.k (.c (.r (.v (.string s_k0)))))),jm 42 41,ju 43 42 (.ld true 3 2),ju 44 42 (.fa 4 3),ju 45 42 (.ld true 2 44),ju 46 42 (.call 92 true [43,45]),jq 47 (.pick 42 46 kf),jm 48 47,ju 49 48 (.fa 1 3),ju 50 48 (.ld false 1 49),ju 51 48 (.ld true 3 2),ju 52 48 (.fa 4 3),ju 53 48 (.ld true 2 52),ju 54 48 (.call 105 true [51,53]),ju 55 48 (.bin .leq .i 50 54),jq 56 (.pick 48 55 kf),jm 4 56] [4]) .ret) (js [jb 58 .eql .i 21 (ki 2),jm 57 58] [2,3,57] (.cond 57 (.seq (.reg (some [[],[0],[0,1],[0,1,2],[0,1,2,3],[0,1,2,3],[0,1,2,3,5],[0,1,2,3,4,5,6],[0,1,2,3,4,5,6,7],[0,1,2,3,4,5,6,7,8],[0,1,2,3,4,5,6,7,8,9],[0,1,2,3,4,5,6,7,8,9,10],[0,1,2,3,4,5,6,7,8,9],[0,1,2,3,4,5,6,7,8,9],[0,1,2,3,4,5,6,7,8,9,13],[0,1,2,3,4,5,6,7,8,9,12,13,14],[0,1,2,3,4,5,6,7,8,9,10,11,12,13,14,15],[0,1,2,3,4,5,6,7,8,9,10,11,12,13,14,15,16],[0,1,2,3,4,5,6,7,8,9,10,11,12,13,14,15,16,17]]) [jf 59 3 3,jk 60 59,jq 61 (.bin
 .eql .s 60 (.k (.c (.r (.v (.string s_k0)))))),jm 62 61,ju 63 62 (.ld true 3 2),ju 64 62 (.fa 4 3),ju 65 62 (.ld true 2 64),ju 66 62 (.call 92 true [63,65]),jq 67 (.pick 62 66 kf),jm 68 67,ju 69 68 (.fa 1 3),ju 70 68 (.ld false 1 69),ju 71 68 (.ld true 3 2),ju 72 68 (.fa 4 3),ju 73 68 (.ld true 2 72),ju 74 68 (.call 106 true [71,73]),ju 75 68 (.bin .geq .i 70 74),jq 76 (.pick 68 75 kf),jm 4 76] [4]) .ret) .skip)))))))) (js [jm 4 kf] [4] .ret)))
def rv67:List RV:=[.t 4]
def iA (g:G) (t:TE) (a0:Network) (a1:Scan):Option Bool:=
 cl (eA g t a0) fun x1=>
 br x1
 (
  lP (fA g t a1.Thing 1 9999) fun x2=>
  br x2
  (
   lP (fA g t a1.At 0 100000) fun x3=>
   br x3
   (
    br (g.eq a1.Kind 1)
    (
     cl (eK g t a0) fun x4=>
     lP (eE g t x4 a1.Place) fun x5=>
     br (g.le 0 x5)
     (
      some (g.all [(g.eq a1.Trip.Leg 0),(g.eq a1.Trip.Day 0)]))
     (
      some false))
    (
     br (g.eq a1.Kind 4)
     (
      cl (eK g t a0) fun x6=>
      lP (eE g t x6 a1.Place) fun x7=>
      br (g.le 0 x7)
      (
       some (g.all [(g.eq a1.Trip.Leg 0),(g.eq a1.Trip.Day 0)]))
      (
       some false))
     (
      br (g.eq a1.Kind 3)
      (
       br (g.seq a1.Place str_k0)
       (
        cl (ky g t a0 (Trip.mk a1.Trip.Leg a1.Trip.Day)) fun x8=>
        br x8
        (
         cl (dX g t a0 (Trip.mk a1.Trip.Leg a1.Trip.Day)) fun x9=>
         some (g.le a1.At x9))
        (
         some false))
       (
        some false))
      (
       br (g.eq a1.Kind 2)
       (
        br (g.seq a1.Place str_k0)
        (
         cl (ky g t a0 (Trip.mk a1.Trip.Leg a1.Trip.Day)) fun x10=>
         br x10
         (
          cl (iv g t a0 (Trip.mk a1.Trip.Leg a1.Trip.Day)) fun x11=>
          some (g.le x11 a1.At))
         (
          some false))
        (
         some false))
       (
        some false)))))
   (
    some false))
  (
   some false))
 (
  some false)
theorem jJ {g:G} {t:TE} {a0:Network} {a1:Scan} {r:Bool} (hg:g=G.real) (ht:t=TE.real) (h:iA g t a0 a1=some r):Fn Tryz.prog 67 [.g (Network.rs t a0),.g (Scan.rs t a1)] (.c (.r (.v (.bool r)))):=by
 obtain⟨X,hX⟩:=aH (.c (.r (.v (.bool r))):X);rw[←hX];refine aw (rvs:=rv67) (j:=(ir67 str_k0)) Tryz.func67 rfl (by kernel_rfl) (nb rfl) (by kernel_rfl) af ?_;intro g2 F hg2 hF;obtain rfl:g2=g:=hg2.unique.trans hg.symm;clear hg2;obtain⟨_,_,le,eq,_,_,_,_,_,_,_,_,_,_,_,_,_,seq,_,_,_,_,_,_,dlen,_,_,_,rd⟩:=g2;obtain⟨_,_,_,_,_,_,r_S,d_S⟩:=t
 obtain⟨a0_Legs,a0_Off,a0_Change⟩:=a0;obtain⟨a1_Thing,a1_At,a1_Kind,a1_Place,⟨a1_Trip_Leg,a1_Trip_Day⟩⟩:=a1;unfold iA at h;try dsimp only at h
 obtain⟨s_k0,hs_k0⟩:∃s,str_k0=s:=⟨_,rfl⟩;try rw[hs_k0] at h
 rw[hs_k0];cbv;obtain⟨x1,hx1,h⟩:=ac h;try dsimp only at h
 refine ACall.mk _ _ rfl (hF _ _ _ (iB hg ht hx1)) (.inl rfl) (nb rfl) ?_;cbv
 cases hb1:x1
 ·rw[aa hb1] at h;cbv;iterate 4 try(rw[hb1];cbv)
  obtain rfl:=Option.some.inj h;exact ARet.mk trivial hX.symm
 rw[ab hb1] at h;cbv;iterate 2 try(rw[hb1];cbv)
 obtain⟨x2,hx2,h⟩:=ak h;try dsimp only at h
 refine ACall.mk _ _ rfl (hF _ _ _ (fU hg ht hx2)) (.inl rfl) (nb rfl) ?_;cbv;iterate 2 try(rw[hb1];cbv)
 cases hb2:x2
 ·rw[aa hb2] at h;cbv;iterate 4 try(rw[hb2];cbv)
  obtain rfl:=Option.some.inj h;exact ARet.mk trivial hX.symm
 rw[ab hb2] at h;cbv;iterate 2 try(rw[hb2];cbv)
 obtain⟨x3,hx3,h⟩:=ak h;try dsimp only at h
 refine ACall.mk _ _ rfl (hF _ _ _ (fU hg ht hx3)) (.inl rfl) (nb rfl) ?_;cbv;iterate 2 try(rw[hb2];cbv)
 cases hb3:x3
 ·rw[aa hb3] at h;cbv;obtain rfl:=Option.some.inj h;exact ARet.mk trivial hX.symm
 rw[ab hb3] at h;cbv
 cases hb4:(eq a1_Kind 1)
 rotate_left
 ·rw[ab hb4] at h;cbv;try(rw[hb4];cbv)
  obtain⟨x4,hx4,h⟩:=ac h;try dsimp only at h
  refine ACall.mk _ _ rfl (hF _ _ _ (gg hg ht hx4)) (.inl rfl) (nb rfl) ?_;cbv;refine AStep.mk (dN ht (aq hg ht _)) ?_;cbv;obtain⟨x5,hx5,h⟩:=ak h;try dsimp only at h
  refine ACall.mk _ _ (by rw[show rd (d_S x4) 0 (dlen (d_S x4))=r_S x4 from fK hg ht (aq hg ht _)];try rfl) (hF _ _ _ (fQ hg ht hx5)) (.inr rfl) (nb rfl) ?_
  cbv
  cases hb5:(le 0 x5)
  rotate_left
  ·rw[ab hb5] at h;cbv;iterate 4 try(rw[hb5];cbv)
   obtain rfl:=Option.some.inj h;exact ARet.mk trivial hX.symm
  rw[aa hb5] at h;cbv;iterate 4 try(rw[hb5];cbv)
  obtain rfl:=Option.some.inj h;exact ARet.mk trivial hX.symm
 rw[aa hb4] at h;cbv
 cases hb6:(eq a1_Kind 4)
 rotate_left
 ·rw[ab hb6] at h;cbv;obtain⟨x6,hx6,h⟩:=ac h;try dsimp only at h
  refine ACall.mk _ _ rfl (hF _ _ _ (gg hg ht hx6)) (.inl rfl) (nb rfl) ?_;cbv;refine AStep.mk (dN ht (aq hg ht _)) ?_;cbv;obtain⟨x7,hx7,h⟩:=ak h;try dsimp only at h
  refine ACall.mk _ _ (by rw[show rd (d_S x6) 0 (dlen (d_S x6))=r_S x6 from fK hg ht (aq hg ht _)];try rfl) (hF _ _ _ (fQ hg ht hx7)) (.inr rfl) (nb rfl) ?_
  cbv
  cases hb7:(le 0 x7)
  rotate_left
  ·rw[ab hb7] at h;cbv;iterate 4 try(rw[hb7];cbv)
   obtain rfl:=Option.some.inj h;exact ARet.mk trivial hX.symm
  rw[aa hb7] at h;cbv;iterate 4 try(rw[hb7];cbv)
  obtain rfl:=Option.some.inj h;exact ARet.mk trivial hX.symm
 rw[aa hb6] at h;cbv
 cases hb8:(eq a1_Kind 3)
 rotate_left
 ·rw[ab hb8] at h;cbv
  cases hb9:(seq a1_Place s_k0)
  ·rw[aa hb9] at h;cbv;iterate 4 try(rw[hb9];cbv)
   obtain rfl:=Option.some.inj h;exact ARet.mk trivial hX.symm
  rw[ab hb9] at h;cbv;iterate 3 try(rw[hb9];cbv)
  obtain⟨x8,hx8,h⟩:=ac h;try dsimp only at h
  refine ACall.mk _ _ rfl (hF _ _ _ (pQ hg ht hx8)) (.inl rfl) (nb rfl) ?_;cbv;try(rw[hb9];cbv)
  cases hb10:x8
  ·rw[aa hb10] at h;cbv;iterate 7 try(rw[hb10];cbv)
   obtain rfl:=Option.some.inj h;exact ARet.mk trivial hX.symm
  rw[ab hb10] at h;cbv;iterate 5 try(rw[hb10];cbv)
  obtain⟨x9,hx9,h⟩:=ac h;try dsimp only at h
  refine ACall.mk _ _ rfl (hF _ _ _ (eL hg ht hx9)) (.inl rfl) (nb rfl) ?_;cbv;iterate 2 try(rw[hb10];cbv)
  obtain rfl:=Option.some.inj h;exact ARet.mk trivial hX.symm
 rw[aa hb8] at h;cbv
 cases hb11:(eq a1_Kind 2)
 ·rw[aa hb11] at h;cbv;obtain rfl:=Option.some.inj h;exact ARet.mk trivial hX.symm
 rw[ab hb11] at h;cbv
 cases hb12:(seq a1_Place s_k0)
 ·rw[aa hb12] at h;cbv;iterate 4 try(rw[hb12];cbv)
  obtain rfl:=Option.some.inj h;exact ARet.mk trivial hX.symm
 rw[ab hb12] at h;cbv;iterate 3 try(rw[hb12];cbv)
 obtain⟨x10,hx10,h⟩:=ac h;try dsimp only at h
 refine ACall.mk _ _ rfl (hF _ _ _ (pQ hg ht hx10)) (.inl rfl) (nb rfl) ?_;cbv;try(rw[hb12];cbv)
 cases hb13:x10
 ·rw[aa hb13] at h;cbv;iterate 7 try(rw[hb13];cbv)
  obtain rfl:=Option.some.inj h;exact ARet.mk trivial hX.symm
 rw[ab hb13] at h;cbv;iterate 5 try(rw[hb13];cbv)
 obtain⟨x11,hx11,h⟩:=ac h;try dsimp only at h
 refine ACall.mk _ _ rfl (hF _ _ _ (gM hg ht hx11)) (.inl rfl) (nb rfl) ?_;cbv;iterate 2 try(rw[hb13];cbv)
 obtain rfl:=Option.some.inj h;exact ARet.mk trivial hX.symm
end Go.Vs
namespace Go.Vs
open Go.IntWalk
theorem C7 {a b:ByteArray} (h:bOf a=bOf b):a=b:=by
 have:=congrArg sOf h
 rwa [A7,A7] at this
instance memD (x:ByteArray):∀l:List ByteArray,Decidable (x∈l)
 |[]=>.isFalse (by simp)
 |y::l=>match decEq x y,memD x l with
  |.isTrue h,_=>.isTrue (by simp[h])
  |.isFalse h,.isTrue h2=>.isTrue (by simp[h2])
  |.isFalse h,.isFalse h2=>.isFalse (by simp[h,h2])
theorem iR (a b:ByteArray):G.real.seq a b=decide (a=b):=by
 rw[qR,Lib.toList_data,Lib.toList_data]
 by_cases h:a=b
 ·subst h;simp
 ·have:¬a.data.toList=b.data.toList:=fun e=>h (C7 e)
  rw[decide_eq_false h]
  exact beq_false_of_ne this
def bLt (a b:ByteArray):Prop:=bOf a<bOf b
instance (a b:ByteArray):Decidable (bLt a b):=inferInstanceAs (Decidable (bOf a<bOf b))
theorem Gq (a b:ByteArray):G.real.slt a b=decide (bLt a b):=by
 show Op.bytesLess a.toList b.toList=_
 rw[Go.Proofs.bytesLess_eq,Lib.toList_data,Lib.toList_data]
 rfl
theorem pM (a:ByteArray):¬bLt a a:=List.lt_irrefl _
theorem vV {a b c:ByteArray} (h1:bLt a b) (h2:bLt b c):bLt a c:=List.lt_trans h1 h2
theorem A9 (a b:ByteArray):bLt a b∨a=b∨bLt b a:=by
 by_cases h1:bLt a b
 ·exact .inl h1
 ·by_cases h2:bLt b a
  ·exact .inr (.inr h2)
  ·refine .inr (.inl (C7 ?_))
   exact List.le_antisymm (fun h=>h2 h) (fun h=>h1 h)
theorem ud:∀{l m:List ByteArray},l.Pairwise bLt→m.Pairwise bLt→(∀x,x∈l↔x∈m)→l=m
 |[],[],_,_,_=>rfl
 |[],y::m,_,_,h=>by have:=(h y).2 (by simp);simp at this
 |x::l,[],_,_,h=>by have:=(h x).1 (by simp);simp at this
 |x::l,y::m,hl,hm,h=>by
  obtain⟨l1,l2⟩:=List.pairwise_cons.1 hl
  obtain⟨m1,m2⟩:=List.pairwise_cons.1 hm
  have hxy:x=y:=by
   have hx:=(h x).1 (by simp)
   have hy:=(h y).2 (by simp)
   rcases List.mem_cons.1 hx with e|hx
   ·exact e
   ·rcases List.mem_cons.1 hy with e|hy
    ·exact e.symm
    ·exact absurd (vV (l1 _ hy) (m1 _ hx)) (pM _)
  subst hxy
  congr 1
  refine ud l2 m2 fun z=>?_
  have hz:=h z
  simp only[List.mem_cons] at hz
  constructor
  ·intro hzl
   rcases hz.1 (.inr hzl) with e|e
   ·subst e;exact absurd (l1 _ hzl) (pM _)
   ·exact e
  ·intro hzm
   rcases hz.2 (.inr hzm) with e|e
   ·subst e;exact absurd (m1 _ hzm) (pM _)
   ·exact e
theorem xY (l:List ByteArray) (z:ByteArray):z∈pJ l↔z∈l:=by
 have h:(pJ l).Perm ((l.map bOf).map sOf):=(List.mergeSort_perm _ _).map sOf
 rw[h.mem_iff,List.map_map]
 simp only[List.mem_map,Function.comp]
 constructor
 ·rintro⟨a,ha,rfl⟩;exact ha
 ·intro hz;exact⟨z,hz,rfl⟩
theorem y6 (l:List ByteArray):(pJ l).length=l.length:=by unfold pJ;rw[List.length_map,List.length_mergeSort,List.length_map]
theorem r8 {l:List ByteArray} (hn:l.Nodup):(pJ l).Pairwise bLt:=by
 have hp:(pJ l).Perm l:=by
  have:=(List.mergeSort_perm (l.map bOf) fun x y=>decide (x≤y)).map sOf
  rw[List.map_map] at this
  have e:l.map (sOf∘bOf)=l:=by
   conv=>rhs;rw[←List.map_id l]
   rfl
  rw[e] at this
  exact this
 have hnd:(pJ l).Nodup:=hp.nodup_iff.2 hn
 have hs:((l.map bOf).mergeSort fun x y=>decide (x≤y)).Pairwise fun a b=>(decide (a≤b))=true:=by
  refine List.pairwise_mergeSort (fun a b c h1 h2=>?_) (fun a b=>?_) _
  ·simp only[decide_eq_true_eq] at h1 h2 ⊢;exact List.le_trans h1 h2
  ·simp only[Bool.or_eq_true,decide_eq_true_eq];exact List.le_total a b
 have hs2:(pJ l).Pairwise fun a b=>bOf a≤bOf b:=by
  unfold pJ
  rw[List.pairwise_map]
  exact hs.imp fun h=>by simpa [Fs] using h
 refine(hs2.and hnd).imp fun⟨h1,h2⟩=>?_
 rcases A9 _ _ with h|h|h
 ·exact h
 ·exact absurd h h2
 ·exact absurd h (fun hh=>h1 hh)
def ddp:List ByteArray→List ByteArray
 |[]=>[]
 |x::l=>if x∈l then ddp l else x::ddp l
theorem sJ:∀(l:List ByteArray) (z:ByteArray),z∈ddp l↔z∈l
 |[],z=>by simp[ddp]
 |x::l,z=>by
  unfold ddp
  split
  ·rename_i h
   rw[sJ l z,List.mem_cons]
   exact⟨.inr,fun hh=>hh.elim (fun e=>e▸h) id⟩
  ·rw[List.mem_cons,List.mem_cons,sJ l z]
theorem rf:∀l:List ByteArray,(ddp l).Nodup
 |[]=>by simp[ddp]
 |x::l=>by
  unfold ddp
  split
  ·exact rf l
  ·rename_i h
   exact List.nodup_cons.2 ⟨by rw[sJ];exact h,rf l⟩
def zL (l:List ByteArray):List ByteArray:=pJ (ddp l)
theorem y5 (l:List ByteArray) (z:ByteArray):z∈zL l↔z∈l:=by
 unfold zL
 rw[xY,sJ]
theorem y8 (l:List ByteArray):(zL l).Pairwise bLt:=r8 (rf l)
theorem Br {l m:List ByteArray} (h:m.Pairwise bLt) (hm:∀x,x∈m↔x∈l):m=zL l:=ud h (y8 l) fun x=>by rw[hm,y5]
theorem AR:∀l:List ByteArray,(ddp l).length≤l.length
 |[]=>by simp[ddp]
 |x::l=>by
  have:=AR l
  unfold ddp
  split<;>simp<;>omega
theorem DG (l:List ByteArray):(zL l).length≤l.length:=by unfold zL;rw[y6];exact AR l
def ixN:List ByteArray→ByteArray→Nat
 |[],_=>0
 |x::l,s=>if x=s then 0 else ixN l s+1
theorem na:∀{l:List ByteArray} {s:ByteArray},s∈l→ixN l s<l.length∧l[ixN l s]?=some s
 |x::l,s,h=>by
  unfold ixN
  split
  ·rename_i e;subst e;simp
  ·rename_i e
   have h2:=na ((List.mem_cons.1 h).resolve_left (fun hh=>e hh.symm))
   simpa using h2
def ix (l:List ByteArray) (s:ByteArray):Int:=if s∈l then(ixN l s:Int) else-1
theorem rq {l:List ByteArray} {s:ByteArray}:ix l s<0↔s∉l:=by
 unfold ix;split<;>simp_all
theorem rl {l:List ByteArray} {s:ByteArray}:0≤ix l s↔s∈l:=by
 unfold ix;split<;>simp_all
theorem sg {l:List ByteArray} {s:ByteArray} (h:s∈l):ix l s=(ixN l s:Int):=by unfold ix;rw[if_pos h]
set_option maxRecDepth 100000
def I0:J:=js [jm 2 (ki 0)] [0] (.seq (js [jm 5 0,jq 6 (.len false 5),jm 7 (ki 0)] [5,6,7] (.bl 0 (js [jb 8 .lss .i 7 6] [5,6,7,8] (.seq (.cond 8 .skip (.exit 0)) (.seq (.block 1 (js [ja 9 1 5 7,jk 10 9,jm 4 10] [4,5,6,7] (js [jm 11 4,jb 12 .neq .i 11 (ki 0)] [4,5,6,7,12] (.cond 12 (js [jm 13 4,jm 2 13] [2] .ret) .skip)))) (.reg none [jb 14 .add .i 7 (ki 1),jm 7 14] [5,6,7])))))) (js [jm 2 (ki 0)] [2] .ret))
def Ib:List RV:=[.t 2]
open Go.Proofs Go.IntWalk
set_option linter.unusedVariables false
set_option maxHeartbeats 4000000
def jT (g:G) (t:TE):List Int→LR Int Unit
 |[]=>
  (LR.out ())
 |z1::ls1=>
  br (g.eq z1 0)
  (
   jT g t ls1)
  (
   (LR.ret z1))
def qU (g:G) (t:TE) (a0:List Int):Int:=
 lP (jT g t a0) fun o1=>lrp o1 fun y1=>
 0
theorem Cx {g:G} {t:TE} {a0:List Int} {r:Int} (hg:g=G.real) (ht:t=TE.real) (h:qU g t a0=r):Fn Tryz.prog 111 [.c (.s 1 (t.r_I64 a0))] (.c (.r (.v (.int .i64 r)))):=by
 obtain⟨X,hX⟩:=aH (.c (.r (.v (.int .i64 r))):X);rw[←hX];refine aw (rvs:=Ib) (j:=I0) Tryz.func111 rfl (by kernel_rfl) (nb rfl) (by kernel_rfl) af ?_;intro g2 F hg2 hF;obtain rfl:g2=g:=hg2.unique.trans hg.symm;clear hg2;obtain⟨wrap,lt,_,eq,_,_,_,_,_,_,_,_,_,add,_,_,_,_,_,_,_,llen⟩:=g2;obtain⟨_,_,r_I64⟩:=t
 unfold qU at h;try dsimp only at h
 cbv;obtain⟨o1,ho1,h⟩:=ak h;try dsimp only at h
 try rw[hg] at ho1
 try rw[ht] at ho1
 refine ABL.mk {p:Nat×Int//p.1≤a0.length∧p.2=((p.1:Nat):Int)∧jT G.real TE.real (List.drop p.1 a0)=o1} (fun⟨⟨k1,v1⟩,_⟩=>({sl:=[(5,.c (.r (.s 1 (r_I64 a0)))),(6,.c (.r (.v (.int .i64 (llen (r_I64 a0)))))),(7,.c (.r (.v (.int .i64 v1))))],tab:=[]}:St)) 0 (fun p=>a0.length-p.1.1) ⟨(0,0),Nat.zero_le _,rfl,ho1⟩ (Unit) (fun _=>({sl:=[],tab:=[]}:St)) 0 (fun y=>o1=LR.out y) ?_ ?_ ?_
 ·refine Wk.of [] rfl rfl ?_ ?_
  ·cbv;all_goals exact⟨⟨_,rfl,rfl⟩,⟨_,rfl,rfl⟩,⟨_,rfl,rfl⟩,trivial⟩
  cbv;all_goals exact trivial
 ·rintro⟨⟨k1,v1⟩,hk1,hi1,h_1⟩ hq1;have hm1:=(hq1.1 5 _ _ rfl);try dsimp only at hk1 hi1 h_1
  clear hq1;cbv
  by_cases hc1_:k1<a0.length
  ·have hb1:lt v1 (llen (r_I64 a0))=true:=eX hg ht hi1 hc1_;have hs1:=iY hg ht hi1 hc1_ hm1;obtain⟨z1,hz1⟩:=aL hc1_;rw[aD hz1] at h_1;rw[jT] at h_1;try rw[←hg] at h_1
   try rw[←ht] at h_1
   try dsimp only at h_1
   rw[hb1];cbv;refine AStep.mk (eO hi1) ?_;cbv;refine AGet.mk _ (gf hg ht hi1 hz1) ?_;cbv
   cases hb2:(eq z1 0)
   ·rw[aa hb2] at h_1;cbv;subst h_1;try dsimp only[lr,lrL,lrp,aR] at h
    subst h;exact ARet.mk trivial hX.symm
   rw[ab hb2] at h_1;cbv;try rw[hg] at h_1
   try rw[ht] at h_1
   refine⟨⟨(k1+1,(wrap .i64 (add v1 1))),hc1_,hs1,h_1⟩,Wk.of [] rfl rfl ?_ ?_,a8 hc1_⟩
   ·cbv;all_goals exact⟨⟨_,rfl,rfl⟩,⟨_,rfl,rfl⟩,⟨_,rfl,rfl⟩,trivial⟩
   cbv;all_goals exact trivial
  have hb1:lt v1 (llen (r_I64 a0))=false:=eB hg ht hi1 hc1_;rw[List.drop_of_length_le (Nat.le_of_not_lt hc1_)] at h_1;rw[jT] at h_1;try rw[←hg] at h_1
  try rw[←ht] at h_1
  try dsimp only at h_1
  rw[hb1];cbv;refine⟨(),Wk.of [] rfl rfl ?_ ?_,h_1.symm⟩
  ·cbv;all_goals exact trivial
  cbv;all_goals exact trivial
 rintro _ hy1;replace hy1:=hy1.symm;subst hy1;try dsimp only[lr,lrL,lrp,aR] at h
 cbv;subst h;exact ARet.mk trivial hX.symm
def Iv:J:=js [jm 4 (ki 0)] [0,1] (.seq (.block 0 (js [jm 6 0,jm 7 1,jb 8 .lss .i 6 7,jm 5 8] [0,1,5] (.cond 5 (js [jq 4 (.mv (.k (V.i (-1))))] [4] .ret) (js [jm 10 0,jm 11 1,jb 12 .gtr .i 10 11,jm 9 12] [9] (.cond 9 (js [jm 4 (ki 1)] [4] .ret) .skip))))) (js [jm 4 (ki 0)] [4] .ret))
def IG:List RV:=[.t 4]
def dv (g:G) (t:TE) (a0:Int) (a1:Int):Int:=
 br (g.lt a0 a1)
 (
  (-1))
 (
  br (g.lt a1 a0)
  (
   1)
  (
   0))
theorem gk {g:G} {t:TE} {a0:Int} {a1:Int} {r:Int} (hg:g=G.real) (ht:t=TE.real) (h:dv g t a0 a1=r):Fn Tryz.prog 112 [.c (.v (.int .i64 a0)),.c (.v (.int .i64 a1))] (.c (.r (.v (.int .i64 r)))):=by
 obtain⟨X,hX⟩:=aH (.c (.r (.v (.int .i64 r))):X);rw[←hX];refine aw (rvs:=IG) (j:=Iv) Tryz.func112 rfl (by kernel_rfl) (nb rfl) (by kernel_rfl) af ?_;intro g2 F hg2 hF;obtain rfl:g2=g:=hg2.unique.trans hg.symm;clear hg2;obtain⟨_,lt⟩:=g2;obtain⟨_⟩:=t
 unfold dv at h;try dsimp only at h
 cbv
 cases hb1:(lt a0 a1)
 rotate_left
 ·rw[ab hb1] at h;cbv;subst h;exact ARet.mk trivial hX.symm
 rw[aa hb1] at h;cbv
 cases hb2:(lt a1 a0)
 rotate_left
 ·rw[ab hb2] at h;cbv;subst h;exact ARet.mk trivial hX.symm
 rw[aa hb2] at h;cbv;subst h;exact ARet.mk trivial hX.symm
open Go.Proofs Go.RowKit
set_option maxHeartbeats 1000000
theorem oW (a b:ByteArray) (w:Go.World):
 Calls Tryz.prog 139 #[.string a,.string b] w fun e w'=>e=.returned (.int .i64 (Lib.compareBytes a.data.toList b.data.toList))∧w'=w:=by
 go_enter Tryz.func139,Tryz.ntmps139
 go_wp2
 rw[run_callFunc_extern Tryz.func147 (by kernel_rfl) (by kernel_rfl) (by kernel_rfl) (e:=Extern.BytealgCompare.compare) (by kernel_rfl),Lib.run_compareString]
 simp only[Result.andThen]
 rw[Oper.upon_value]
 go_wp2
 go_ret
 exact⟨rfl,rfl⟩
theorem oZ (a b:ByteArray) (w:Go.World):
 Calls Tryz.prog 113 #[.string a,.string b] w fun e w'=>e=.returned (.int .i64 (Lib.compareBytes a.data.toList b.data.toList))∧w'=w:=by
 go_enter Tryz.func113,Tryz.ntmps113
 go_wp2_with (go_at_call 139;refine(oW _ _ _).mono ?_;rintro e w' ⟨rfl,rfl⟩)
 go_ret
 exact⟨rfl,rfl⟩
def jE (g:G) (t:TE) (a b:ByteArray):Int:=Lib.compareBytes a.data.toList b.data.toList
theorem oY {g:G} {t:TE} {a0 a1:ByteArray} {r:Int} (hg:g=G.real) (ht:t=TE.real) (h:jE g t a0 a1=r):Fn Tryz.prog 113 [.c (.v (.string a0)),.c (.v (.string a1))] (.c (.r (.v (.int .i64 r)))):=by
 subst h;exact GV (xs:=[.string a0,.string a1]) rfl (fun w=>oZ a0 a1 w)
def ir70:J:=js [jq 2 (.box 0),jq 3 (.box 1),jm 4 (ki 0)] [2,3] (.seq (.reg (some [[],[0],[],[2],[0,1,2,3],[],[5],[],[7],[0,1,2,3,4,5,6,7,8],[],[10],[],[12],[0,1,2,3,4,5,6,7,8,9,10,11,12,13],[],[15],[15,16],[],[18],[18,19],[0,1,2,3,4,5,6,7,8,9,10,11,12,13,14,15,16,17,18,19,20],[],[22],[22,23],[],[25],[25,26],[0,1,2,3,4,5,6,7,8,9,10,11,12,13,14,15,16,17,18,19,20,21,22,23,24,25,26,27],[],[29],[],[31],[0,1,2,3,4,5,6,7,8,9,10,11,12,13,14,15,16,17,18,19,20,21,22,23,24,25,26,27,28,29,30,31,32],[0,1,2,3,4,5,6,7,8,9,10,11,12,13,14,15,16,17,18,19,20,21,22,23,24,25,26,27,28,29,30,31,32,33],[0,1,2,3,4,5,6,7,8,9,10,11,12,13,14,15,16,17,18,19,20,21,22,23,24,25,26,27,28,29,30,31,32,33,34],[0,1,2,3,4,5,6,7,8,9,10,11,12,13,14,15,16,17,18,19,20,21,22,23,24,25,26,27,28,29,30,31,32,33,34,35]]) [jf 5 1 2,jk 6 5,jf 7 1 3,jk 8 7,jc 9 112 [6,8],jf 10 0 2,jk 11 10,jf 12 0 3,jk 13 12,jc 14 112 [11,13],jf 15 2 2,jk 16 15,jf 17 2 3,jk 18 17,jc 19 112 [16,18],jf 20 4 2,jf 21 1 20,jk 22 21,jf 23 4 3,jf 24 1 23,jk 25 24,jc 26 112 [22,25],jf 27 4 2,jf 28 0 27,jk 29 28,jf 30 4 3,jf 31 0 30,jk 32 31,jc 33 112 [29,32],jf 34 3 2,jk 35 34,jf 36 3 3,jk 37 36,jc 38 113 [35,37],jq 39 (.bsl 1 [9,14,19,26,33,38]),jc 40 111 [39],jm 4 40] [4]) .ret)
def rv70:List RV:=[.t 4]
def bT (g:G) (t:TE) (a0:Scan) (a1:Scan):Int:=
 lP (dv g t a0.At a1.At) fun x1=>
 lP (dv g t a0.Thing a1.Thing) fun x2=>
 lP (dv g t a0.Kind a1.Kind) fun x3=>
 lP (dv g t a0.Trip.Day a1.Trip.Day) fun x4=>
 lP (dv g t a0.Trip.Leg a1.Trip.Leg) fun x5=>
 lP (jE g t a0.Place a1.Place) fun x6=>
 lP ([x1,x2,x3,x4,x5,x6]) fun(l1:List Int)=>
 lP (qU g t l1) fun x7=>
 x7
theorem mR {g:G} {t:TE} {a0:Scan} {a1:Scan} {r:Int} (hg:g=G.real) (ht:t=TE.real) (h:bT g t a0 a1=r):Fn Tryz.prog 70 [.g (Scan.rs t a0),.g (Scan.rs t a1)] (.c (.r (.v (.int .i64 r)))):=by
 obtain⟨X,hX⟩:=aH (.c (.r (.v (.int .i64 r))):X);rw[←hX];refine aw (rvs:=rv70) (j:=ir70) Tryz.func70 rfl (by kernel_rfl) (nb rfl) (by kernel_rfl) af ?_;intro g2 F hg2 hF;obtain rfl:g2=g:=hg2.unique.trans hg.symm;clear hg2;obtain⟨_,_,_,_,_,_,_,_,_,_,_,_,_,_,_,_,_,_,_,_,_,_,_,_,dlen,_,_,_,rd⟩:=g2;obtain⟨_,_,r_I64,d_I64⟩:=t
 obtain⟨a0_Thing,a0_At,a0_Kind,a0_Place,⟨a0_Trip_Leg,a0_Trip_Day⟩⟩:=a0;obtain⟨a1_Thing,a1_At,a1_Kind,a1_Place,⟨a1_Trip_Leg,a1_Trip_Day⟩⟩:=a1;unfold bT at h;try dsimp only at h
 cbv;obtain⟨x1,hx1,h⟩:=ak h;try dsimp only at h
 refine ACall.mk _ _ rfl (hF _ _ _ (gk hg ht hx1)) (.inl rfl) (nb rfl) ?_;cbv;obtain⟨x2,hx2,h⟩:=ak h;try dsimp only at h
 refine ACall.mk _ _ rfl (hF _ _ _ (gk hg ht hx2)) (.inl rfl) (nb rfl) ?_;cbv;obtain⟨x3,hx3,h⟩:=ak h;try dsimp only at h
 refine ACall.mk _ _ rfl (hF _ _ _ (gk hg ht hx3)) (.inl rfl) (nb rfl) ?_;cbv;obtain⟨x4,hx4,h⟩:=ak h;try dsimp only at h
 refine ACall.mk _ _ rfl (hF _ _ _ (gk hg ht hx4)) (.inl rfl) (nb rfl) ?_;cbv;obtain⟨x5,hx5,h⟩:=ak h;try dsimp only at h
 refine ACall.mk _ _ rfl (hF _ _ _ (gk hg ht hx5)) (.inl rfl) (nb rfl) ?_;cbv;obtain⟨x6,hx6,h⟩:=ak h;try dsimp only at h
 refine ACall.mk _ _ rfl (hF _ _ _ (oY hg ht hx6)) (.inl rfl) (nb rfl) ?_;cbv;obtain⟨l1,hl1,h⟩:=ak h;try dsimp only at h
 refine ANew.mk (d_I64 l1) (dlen (d_I64 l1)) (by rw[←hl1];exact eM hg ht [x1,x2,x3,x4,x5,x6]) (by rw[←hl1];exact dg hg ht [x1,x2,x3,x4,x5,x6]) ?_;cbv;refine AStep.mk (df ht (am hg ht _)) ?_;cbv;obtain⟨x7,hx7,h⟩:=ak h;try dsimp only at h
 refine ACall.mk _ _ (by rw[show rd (d_I64 l1) 0 (dlen (d_I64 l1))=r_I64 l1 from eN hg ht (am hg ht _)];try rfl) (hF _ _ _ (Cx hg ht hx7)) (.inr rfl) (nb rfl) ?_
 cbv;subst h;exact ARet.mk trivial hX.symm
end Go.Vs
namespace Go.Vs
open Go.IntWalk
theorem ub:∀(a b:List UInt8),Op.bytesLess a b=decide (Lib.compareBytes a b<0)
 |[],[]=>rfl
 |[],_::_=>rfl
 |_::_,[]=>rfl
 |a::x,b::y=>by
  rw[Op.bytesLess,Lib.compareBytes,ub x y]
  by_cases h:a<b
  ·simp[h]
  ·by_cases h2:b<a
   ·have:a≠b:=fun e=>absurd (e▸h2) (UInt8.lt_irrefl _)
    simp[h,h2,this]
   ·have:a=b:=UInt8.le_antisymm (UInt8.not_lt.1 h2) (UInt8.not_lt.1 h)
    simp[this,UInt8.lt_irrefl]
theorem zE:∀(a b:List UInt8),(a==b)=decide (Lib.compareBytes a b=0)
 |[],[]=>rfl
 |[],_::_=>rfl
 |_::_,[]=>rfl
 |a::x,b::y=>by
  have:=zE x y
  rw[Lib.compareBytes]
  by_cases h:a<b
  ·have:a≠b:=fun e=>absurd (e▸h) (UInt8.lt_irrefl _)
   simp[h,this]
  ·by_cases h2:b<a
   ·have:a≠b:=fun e=>absurd (e▸h2) (UInt8.lt_irrefl _)
    simp[h,h2,this]
   ·have e:a=b:=UInt8.le_antisymm (UInt8.not_lt.1 h2) (UInt8.not_lt.1 h)
    subst e
    rw[if_neg h,if_neg h,←this]
    simp
theorem AC:∀(a b:List UInt8),Lib.compareBytes a b= -1∨Lib.compareBytes a b=0∨Lib.compareBytes a b=1
 |[],[]=>.inr (.inl rfl)
 |[],_::_=>.inl rfl
 |_::_,[]=>.inr (.inr rfl)
 |a::x,b::y=>by
  rw[Lib.compareBytes]
  by_cases h:a<b
  ·rw[if_pos h];exact .inl rfl
  ·rw[if_neg h]
   by_cases h2:b<a
   ·rw[if_pos h2];exact .inr (.inr rfl)
   ·rw[if_neg h2];exact AC x y
theorem FSq (a b:ByteArray):G.real.slt a b=decide (Lib.compareBytes a.data.toList b.data.toList<0):=by
 show Op.bytesLess a.toList b.toList=_
 rw[ByteArray.toList_eq,ByteArray.toList_eq,ub]
theorem FZ (a b:ByteArray):G.real.sle a b=decide (Lib.compareBytes a.data.toList b.data.toList≤0):=by
 show(Op.bytesLess a.toList b.toList||a.toList==b.toList)=_
 rw[ByteArray.toList_eq,ByteArray.toList_eq,ub,zE,←Bool.decide_or]
 congr 1
 apply propext
 omega
def jr (x y:Int):Int:=if x<y then-1 else if y<x then 1 else 0
theorem FW (x y:Int):dv G.real TE.real x y=jr x y:=by
 unfold dv jr
 simp only[bv,ao]
def ip:List Int→Int
 |[]=>0
 |x::l=>if x=0 then ip l else x
theorem DP (l:List Int):qU G.real TE.real l=ip l:=by
 unfold qU
 simp only[aA]
 induction l with
 |nil=>rfl
 |cons x l ih=>
  rw[jT,ip]
  simp only[co,ao]
  by_cases h:x=0
  ·rw[if_pos h,if_pos h];exact ih
  ·rw[if_neg h,if_neg h];rfl
theorem Gd (a b:Scan):bT G.real TE.real a b=
 ip [jr a.At b.At,jr a.Thing b.Thing,jr a.Kind b.Kind,jr a.Trip.Day b.Trip.Day,jr a.Trip.Leg b.Trip.Leg,Lib.compareBytes a.Place.data.toList b.Place.data.toList]:=by
 unfold bT
 simp only[aA,FW,DP,jE]
theorem lu (l1 l2:List Int) (n i:Nat) (x y:Int) (h1:l1[i]?=some x) (h2:l2[i]?=some y) (hi:i<100):
 bG G.real TE.real l1 l2 (n+1) (i:Int)=if jr x y=0 then bG G.real TE.real l1 l2 n ((i+1:Nat):Int) else some (.ret (jr x y)):=by
 rw[bG]
 have hl:i<l2.length:=by
  rcases Nat.lt_or_ge i l2.length with h|h
  ·exact h
  ·rw[List.getElem?_eq_none h] at h2;cases h2
 simp only[aZ,Int.toNat_natCast,eP,bm]
 rw[az h1,aj ⟨by omega,by omega⟩,az h2,w64 (by omega) (by omega)]
 simp only[bv,ao]
 unfold jr
 by_cases c1:x<y
 ·simp[c1]
 ·rw[if_neg c1,if_neg c1,aj ⟨by omega,by omega⟩]
  by_cases c2:y<x
  ·simp[c2]
  ·simp[c2]
theorem Gt (a b:Scan):eG G.real TE.real a b=some (bT G.real TE.real a b):=by
 rw[Gd]
 unfold eG
 simp only[aA,eP,cg,List.length_cons,List.length_nil]
 rw[aj (by decide),show ay 0 (((0+1+1+1+1+1:Nat):Int))=4+1 from rfl,show(0:Int)=((0:Nat):Int) from rfl]
 rw[lu _ _ 4 0 a.At b.At rfl rfl (by omega)]
 simp only[ip]
 by_cases e0:jr a.At b.At=0
 ·rw[if_pos e0,if_pos e0,lu _ _ 3 1 a.Thing b.Thing rfl rfl (by omega)]
  by_cases e1:jr a.Thing b.Thing=0
  ·rw[if_pos e1,if_pos e1,lu _ _ 2 2 a.Kind b.Kind rfl rfl (by omega)]
   by_cases e2:jr a.Kind b.Kind=0
   ·rw[if_pos e2,if_pos e2,lu _ _ 1 3 a.Trip.Day b.Trip.Day rfl rfl (by omega)]
    by_cases e3:jr a.Trip.Day b.Trip.Day=0
    ·rw[if_pos e3,if_pos e3,lu _ _ 0 4 a.Trip.Leg b.Trip.Leg rfl rfl (by omega)]
     by_cases e4:jr a.Trip.Leg b.Trip.Leg=0
     ·rw[if_pos e4,if_pos e4,bG]
      simp only[ag,th,FSq,FZ,ao]
      rcases AC a.Place.data.toList b.Place.data.toList with h|h|h<;>rw[h]<;>rfl
     ·rw[if_neg e4,if_neg e4];rfl
    ·rw[if_neg e3,if_neg e3];rfl
   ·rw[if_neg e2,if_neg e2];rfl
  ·rw[if_neg e1,if_neg e1];rfl
 ·rw[if_neg e0,if_neg e0];rfl
end Go.Vs
namespace Go.Vs
open Go.IntWalk
structure C3 {α:Type} (c:α→α→Int):Prop where
 anti:∀a b,c b a= -c a b
 tr:∀a b d,c a b≤0→c b d≤0→c a d≤0
theorem C3.refl {α:Type} {c:α→α→Int} (h:C3 c) (a:α):c a a=0:=by have:=h.anti a a;omega
def lex {α:Type} (c d:α→α→Int) (a b:α):Int:=if c a b=0 then d a b else c a b
theorem C3.lex {α:Type} {c d:α→α→Int} (h:C3 c) (k:C3 d):C3 (lex c d):={
 anti a b:=by
  unfold Vs.lex
  have h1:=h.anti a b
  have h2:=k.anti a b
  split<;>split<;>omega
 tr a b e:=by
  unfold Vs.lex
  have h1:=h.tr a b e
  have h2:=h.tr e a b
  have h3:=h.tr b e a
  have h4:=h.anti a b
  have h5:=h.anti a e
  have h6:=h.anti b e
  have h7:=k.tr a b e
  split<;>split<;>split<;>omega }
theorem C3.of {α β:Type} {c:β→β→Int} (h:C3 c) (f:α→β):C3 fun a b=>c (f a) (f b):=⟨fun _ _=>h.anti _ _,fun _ _ _=>h.tr _ _ _⟩
theorem qm:C3 jr :={
 anti a b:=by unfold jr;split<;>split<;>(try split)<;>omega
 tr a b d:=by unfold jr;split<;>split<;>(try split)<;>(try split)<;>(try split)<;>omega }
theorem mA {a b:Int} (h:jr a b=0):a=b:=by unfold jr at h;split at h<;>(try split at h)<;>omega
theorem Bw:∀a b:List UInt8,Lib.compareBytes b a= -Lib.compareBytes a b
 |[],[]=>rfl
 |[],_::_=>rfl
 |_::_,[]=>rfl
 |a::x,b::y=>by
  rw[Lib.compareBytes,Lib.compareBytes,Bw x y]
  by_cases h:a<b
  ·have h2:¬b<a:=fun e=>absurd (UInt8.lt_trans h e) (UInt8.lt_irrefl _)
   rw[if_pos h,if_neg h2,if_pos h];rfl
  ·by_cases h2:b<a
   ·rw[if_pos h2,if_neg h,if_pos h2]
   ·rw[if_neg h2,if_neg h,if_neg h,if_neg h2]
theorem Gr:∀a b d:List UInt8,Lib.compareBytes a b≤0→Lib.compareBytes b d≤0→Lib.compareBytes a d≤0
 |[],_,[],_,_=>by simp[Lib.compareBytes]
 |[],_,_::_,_,_=>by simp[Lib.compareBytes]
 |_::_,[],_,h,_=>by simp[Lib.compareBytes] at h
 |_::_,_::_,[],_,h=>by simp[Lib.compareBytes] at h
 |a::x,b::y,d::z,h1,h2=>by
  rw[Lib.compareBytes] at h1 h2 ⊢
  have ih:=Gr x y z
  by_cases e1:a<b
  ·by_cases e2:b<d
   ·rw[if_pos (UInt8.lt_trans e1 e2)];decide
   ·rw[if_neg e2] at h2
    by_cases e3:d<b
    ·rw[if_pos e3] at h2;exact absurd h2 (by decide)
    ·have:b=d:=UInt8.le_antisymm (UInt8.not_lt.1 e3) (UInt8.not_lt.1 e2)
     subst this
     rw[if_pos e1];decide
  ·rw[if_neg e1] at h1
   by_cases e4:b<a
   ·rw[if_pos e4] at h1;exact absurd h1 (by decide)
   ·have:a=b:=UInt8.le_antisymm (UInt8.not_lt.1 e4) (UInt8.not_lt.1 e1)
    subst this
    rw[if_neg e4] at h1
    by_cases e2:a<d
    ·rw[if_pos e2];decide
    ·rw[if_neg e2] at h2 ⊢
     by_cases e3:d<a
     ·rw[if_pos e3] at h2;exact absurd h2 (by decide)
     ·rw[if_neg e3] at h2 ⊢
      exact ih h1 h2
theorem Jv:C3 Lib.compareBytes:=⟨Bw,Gr⟩
def cmS (a b:Scan):Int:=ip [jr a.At b.At,jr a.Thing b.Thing,jr a.Kind b.Kind,jr a.Trip.Day b.Trip.Day,jr a.Trip.Leg b.Trip.Leg,Lib.compareBytes a.Place.data.toList b.Place.data.toList]
theorem IW (a b:Scan):bT G.real TE.real a b=cmS a b:=Gd a b
theorem cm_s (a b:Scan):eG G.real TE.real a b=some (cmS a b):=by rw[Gt,IW]
theorem yK (x:Int):ip [x]=x:=by simp only[ip];split<;>omega
theorem AZ:cmS=lex (fun a b:Scan=>jr a.At b.At) (lex (fun a b=>jr a.Thing b.Thing) (lex (fun a b=>jr a.Kind b.Kind) (lex (fun a b=>jr a.Trip.Day b.Trip.Day) (lex (fun a b=>jr a.Trip.Leg b.Trip.Leg) (fun a b=>Lib.compareBytes a.Place.data.toList b.Place.data.toList))))):=by
 funext a b
 unfold cmS
 simp only[lex]
 rw[ip,ip,ip,ip,ip,yK]
theorem jR:C3 cmS:=by
 rw[AZ]
 exact(qm.of Scan.At).lex<|(qm.of Scan.Thing).lex<|(qm.of Scan.Kind).lex<|(qm.of fun s:Scan=>s.Trip.Day).lex<|(qm.of fun s:Scan=>s.Trip.Leg).lex<|Jv.of fun s:Scan=>s.Place.data.toList
theorem nK {α:Type} {c d:α→α→Int} {a b:α} (h:lex c d a b=0):c a b=0∧d a b=0:=by
 unfold lex at h
 split at h
 ·exact⟨‹_›,h⟩
 ·exact absurd h ‹_›
theorem nL {a b:Scan} (h:cmS a b=0):a=b:=by
 rw[AZ] at h
 obtain⟨h1,h⟩:=nK h
 obtain⟨h2,h⟩:=nK h
 obtain⟨h3,h⟩:=nK h
 obtain⟨h4,h⟩:=nK h
 obtain⟨h5,h6⟩:=nK h
 have h7:=zE a.Place.data.toList b.Place.data.toList
 rw[decide_eq_true h6] at h7
 have h8:=mA h1
 have h9:=mA h2
 have h10:=mA h3
 have h11:=mA h4
 have h12:=mA h5
 have h13:a.Place=b.Place:=by
  have:=eq_of_beq h7
  cases hA:a.Place with
  |mk x=>cases hB:b.Place with
   |mk y=>rw[hA,hB] at this;cases x;cases y;simp at this;subst this;rfl
 cases a with
 |mk t1 a1 k1 p1 tr1=>cases b with
  |mk t2 a2 k2 p2 tr2=>cases tr1;cases tr2;simp_all
theorem xX (a:Scan):cmS a a=0:=jR.refl a
theorem np {a b c:Scan} (h1:cmS a b<0) (h2:cmS b c<0):cmS a c<0:=by
 have h3:=jR.tr a b c (by omega) (by omega)
 rcases Int.lt_or_eq_of_le h3 with h|h
 ·exact h
 ·have:=nL h
  subst this
  have:=jR.anti a b
  omega
theorem yx:∀{l m:List Scan},l.Pairwise (fun a b=>cmS a b<0)→m.Pairwise (fun a b=>cmS a b<0)→(∀x,x∈l↔x∈m)→l=m
 |[],[],_,_,_=>rfl
 |[],y::m,_,_,h=>by have:=(h y).2 (by simp);simp at this
 |x::l,[],_,_,h=>by have:=(h x).1 (by simp);simp at this
 |x::l,y::m,hl,hm,h=>by
  obtain⟨l1,l2⟩:=List.pairwise_cons.1 hl
  obtain⟨m1,m2⟩:=List.pairwise_cons.1 hm
  have irr:∀a:Scan,¬cmS a a<0:=fun a=>by rw[xX];decide
  have hxy:x=y:=by
   have hx:=(h x).1 (by simp)
   have hy:=(h y).2 (by simp)
   rcases List.mem_cons.1 hx with e|hx
   ·exact e
   ·rcases List.mem_cons.1 hy with e|hy
    ·exact e.symm
    ·exact absurd (np (l1 _ hy) (m1 _ hx)) (irr _)
  subst hxy
  congr 1
  refine yx l2 m2 fun z=>?_
  have hz:=h z
  simp only[List.mem_cons] at hz
  constructor
  ·intro hzl
   rcases hz.1 (.inr hzl) with e|e
   ·subst e;exact absurd (l1 _ hzl) (irr _)
   ·exact e
  ·intro hzm
   rcases hz.2 (.inr hzm) with e|e
   ·subst e;exact absurd (m1 _ hzm) (irr _)
   ·exact e
end Go.Vs
namespace Go.Vs
open Go.IntWalk
def leS (a b:Scan):Bool:= !decide (cmS b a<0)
theorem qC (a b:Scan):leS a b=true↔cmS a b≤0:=by
 have:=jR.anti a b
 simp[leS];omega
theorem Ex (a b c:Scan) (h1:leS a b=true) (h2:leS b c=true):leS a c=true:=by
 rw[qC] at h1 h2 ⊢
 exact jR.tr _ _ _ h1 h2
theorem Dw (a b:Scan):(leS a b||leS b a)=true:=by
 have:=jR.anti a b
 rw[Bool.or_eq_true,qC,qC];omega
theorem Hn (a b:Scan) (h1:leS a b=true) (h2:leS b a=true):a=b:=by
 have:=jR.anti a b
 rw[qC] at h1 h2
 exact nL (by omega)
def zB (l:List Scan):Prop:=l.Pairwise fun a b=>cmS a b<0
def ddF:Option Scan→List Scan→List Scan
 |_,[]=>[]
 |none,x::l=>x::ddF (some x) l
 |some p,x::l=>if cmS p x=0 then ddF (some x) l else x::ddF (some x) l
theorem xQ:∀(l:List Scan) (p:Scan),(p::l).Pairwise (fun a b=>cmS a b≤0)→(zB (ddF (some p) l)∧(∀x∈ddF (some p) l,cmS p x<0))∧∀x,(x=p∨x∈ddF (some p) l)↔(x=p∨x∈l)
 |[],p,_=>⟨⟨List.Pairwise.nil,by simp[ddF]⟩,by simp[ddF]⟩
 |y::l,p,h=>by
  obtain⟨h1,h2⟩:=List.pairwise_cons.1 h
  obtain⟨⟨i1,i2⟩,i3⟩:=xQ l y h2
  rw[ddF]
  by_cases e:cmS p y=0
  ·have:=nL e
   subst this
   rw[if_pos e]
   refine⟨⟨i1,i2⟩,fun x=>?_⟩
   rw[i3 x,List.mem_cons]
   constructor
   ·rintro(h|h)
    ·exact .inl h
    ·exact .inr (.inr h)
   ·rintro(h|h|h)
    ·exact .inl h
    ·exact .inl h
    ·exact .inr h
  ·rw[if_neg e]
   have hp:cmS p y<0:=by have:=h1 y (by simp);omega
   refine⟨⟨List.pairwise_cons.2 ⟨i2,i1⟩,fun x hx=>?_⟩,fun x=>?_⟩
   ·rcases List.mem_cons.1 hx with rfl|hx
    ·exact hp
    ·exact np hp (i2 x hx)
   ·rw[List.mem_cons,List.mem_cons,i3 x]
theorem ya {l:List Scan} (h:l.Pairwise fun a b=>cmS a b≤0):zB (ddF none l)∧∀x,x∈ddF none l↔x∈l:=by
 cases l with
 |nil=>exact⟨List.Pairwise.nil,by simp[ddF]⟩
 |cons y l=>
  obtain⟨⟨i1,i2⟩,i3⟩:=xQ l y h
  rw[ddF]
  refine⟨List.pairwise_cons.2 ⟨i2,i1⟩,fun x=>?_⟩
  rw[List.mem_cons,List.mem_cons,i3 x]
theorem wC:∀(p:Option Scan) (l:List Scan),(ddF p l).length≤l.length
 |_,[]=>by cases ‹Option Scan› <;>exact Nat.le_refl _
 |none,x::l=>by have:=wC (some x) l;simp[ddF];exact this
 |some p,x::l=>by
  have:=wC (some x) l
  rw[ddF];split
  ·simp;omega
  ·simp;exact this
def lN (x:Scan):List Scan→List Scan
 |[]=>[x]
 |y::l=>if cmS y x<0 then y::lN x l else if cmS y x=0 then y::l else x::y::l
theorem tj (x:Scan):∀(l:List Scan) (z:Scan),z∈lN x l↔z=x∨z∈l
 |[],z=>by simp[lN]
 |y::l,z=>by
  have ih:=tj x l z
  rw[lN]
  split
  ·rw[List.mem_cons,ih,List.mem_cons]
   constructor
   ·rintro(h|h|h)
    ·exact .inr (.inl h)
    ·exact .inl h
    ·exact .inr (.inr h)
   ·rintro(h|h|h)
    ·exact .inr (.inl h)
    ·exact .inl h
    ·exact .inr (.inr h)
  ·split
   ·have:=nL ‹cmS y x=0›
    subst this
    rw[List.mem_cons]
    constructor
    ·exact fun h=>.inr h
    ·rintro(h|h)
     ·exact .inl h
     ·exact h
   ·rw[List.mem_cons,List.mem_cons]
theorem yh (x:Scan):∀{l:List Scan},zB l→zB (lN x l)
 |[],_=>List.pairwise_singleton _ _
 |y::l,h=>by
  obtain⟨h1,h2⟩:=List.pairwise_cons.1 h
  rw[lN]
  split
  ·rename_i c
   refine List.pairwise_cons.2 ⟨fun z hz=>?_,yh x h2⟩
   rcases(tj x l z).1 hz with rfl|hz
   ·exact c
   ·exact h1 z hz
  ·split
   ·exact h
   ·have:=jR.anti x y
    have hx:cmS x y<0:=by omega
    refine List.pairwise_cons.2 ⟨fun z hz=>?_,h⟩
    rcases List.mem_cons.1 hz with rfl|hz
    ·exact hx
    ·exact np hx (h1 z hz)
theorem xh (x:Scan):∀l:List Scan,(lN x l).length≤l.length+1
 |[]=>by simp[lN]
 |y::l=>by
  have:=xh x l
  rw[lN];split
  ·simp;omega
  ·split<;>simp
def Dm (l:List Scan):List Scan:=l.foldl (fun o x=>lN x o) []
theorem vT:∀(l o:List Scan),zB o→zB (l.foldl (fun o x=>lN x o) o)∧∀z,z∈l.foldl (fun o x=>lN x o) o↔z∈o∨z∈l
 |[],o,h=>⟨h,by simp⟩
 |x::l,o,h=>by
  obtain⟨h1,h2⟩:=vT l (lN x o) (yh x h)
  refine⟨h1,fun z=>?_⟩
  rw[List.foldl_cons,h2,tj,List.mem_cons]
  constructor
  ·rintro((h|h)|h)
   ·exact .inr (.inl h)
   ·exact .inl h
   ·exact .inr (.inr h)
  ·rintro(h|h|h)
   ·exact .inl (.inr h)
   ·exact .inl (.inl h)
   ·exact .inr h
def zw (l:List Scan):List Scan:=ddF none (l.mergeSort leS)
theorem xM (l:List Scan):(l.mergeSort leS).Pairwise fun a b=>cmS a b≤0:=
 List.Pairwise.imp (fun{a b} h=>(qC a b).1 h) (List.pairwise_mergeSort Ex Dw l)
theorem Eq (l:List Scan):zB (zw l):=(ya (xM l)).1
theorem EF (l:List Scan) (x:Scan):x∈zw l↔x∈l:=by
 rw[zw,(ya (xM l)).2 x,List.mem_mergeSort]
theorem EN (l:List Scan):(zw l).length≤l.length:=by
 have:=wC none (l.mergeSort leS)
 rw[List.length_mergeSort] at this
 exact this
theorem B6 (l:List Scan):Dm l=zw l:=by
 obtain⟨h1,h2⟩:=vT l [] List.Pairwise.nil
 refine yx h1 (Eq l) fun x=>?_
 unfold Dm
 rw[h2 x,EF];simp
set_option maxRecDepth 100000
def ir69:J:=js [jm 5 kf] [0,1,2] (.seq (.reg (some [[],[],[0,1],[0,1,2],[],[],[4,5],[4,5,6],[0,1,2,3,4,5,6,7],[0,1,2,3,4,5,6,7,8],[0,1,2,3,4,5,6,7,8,9]]) [jk 6 2,jm 7 0,ja 8 6 6 7,jl 9 6 8,jk 10 2,jm 11 1,ja 12 6 10 11,jl 13 6 12,jc 14 70 [9,13],jb 15 .lss .i 14 (ki 0),jm 5 15] [5]) .ret)
def rv69:List RV:=[.t 5]
open Go.Proofs Go.IntWalk
set_option linter.unusedVariables false
set_option maxHeartbeats 4000000
def mj (g:G) (t:TE) (a0:Int) (a1:Int) (a2:List Scan):Option Bool:=
 gd (((0:Int)≤a0))<|
 gt a2 (g.nat a0) fun x1=>
 gd (((0:Int)≤a1))<|
 gt a2 (g.nat a1) fun x2=>
 lP (bT g t (Scan.mk x1.Thing x1.At x1.Kind x1.Place (Trip.mk x1.Trip.Leg x1.Trip.Day)) (Scan.mk x2.Thing x2.At x2.Kind x2.Place (Trip.mk x2.Trip.Leg x2.Trip.Day))) fun x3=>
 some (g.lt x3 0)
theorem sC {g:G} {t:TE} {a0:Int} {a1:Int} {a2:List Scan} {r:Bool} (hg:g=G.real) (ht:t=TE.real) (h:mj g t a0 a1 a2=some r):Fn Tryz.prog 69 [.c (.v (.int .i64 a0)),.c (.v (.int .i64 a1)),.q [.s 6 (t.r_Scan a2)]] (.c (.r (.v (.bool r)))):=by
 obtain⟨X,hX⟩:=aH (.c (.r (.v (.bool r))):X);rw[←hX];refine aw (rvs:=rv69) (j:=ir69) Tryz.func69 rfl (by kernel_rfl) (nb rfl) (by kernel_rfl) af ?_;intro g2 F hg2 hF;obtain rfl:g2=g:=hg2.unique.trans hg.symm;clear hg2;obtain⟨_⟩:=g2;obtain⟨_⟩:=t
 unfold mj at h;try dsimp only at h
 cbv;obtain⟨hc1,h⟩:=al h;refine AStep.mk hc1 ?_;cbv;obtain⟨x1,hx1,h⟩:=aE h;obtain⟨x1_Thing,x1_At,x1_Kind,x1_Place,⟨x1_Trip_Leg,x1_Trip_Day⟩⟩:=x1;try dsimp only at h
 refine AGet.mk _ (nw hg ht hx1) ?_;cbv;obtain⟨hc2,h⟩:=al h;refine AStep.mk hc2 ?_;cbv;obtain⟨x2,hx2,h⟩:=aE h;obtain⟨x2_Thing,x2_At,x2_Kind,x2_Place,⟨x2_Trip_Leg,x2_Trip_Day⟩⟩:=x2;try dsimp only at h
 refine AGet.mk _ (nw hg ht hx2) ?_;cbv;obtain⟨x3,hx3,h⟩:=ak h;try dsimp only at h
 refine ACall.mk _ _ rfl (hF _ _ _ (mR hg ht hx3)) (.inl rfl) (nb rfl) ?_;cbv;obtain rfl:=Option.some.inj h;exact ARet.mk trivial hX.symm
end Go.Vs
namespace Go.Proofs
open Go.Shelf Go.RowKit Go.Lib Go.Sort
set_option maxHeartbeats 2000000
set_option maxRecDepth 100000
def Tryz.lays8_ren : Go.Shelf.Ren := ⟨fun | 8 => 68 | 13 => 107 | 14 => 108 | 16 => 110 | 15 => 109 | 29 => 137 | 30 => 138 | 42 => 146 | 49 => 155 | n => n, fun | 20 => 20 | 26 => 84 | 36 => 119 | 0 => 0 | 38 => 121 | 42 => 125 | 3 => 3 | 4 => 4 | 47 => 145 | 17 => 17 | 33 => 116 | 34 => 117 | 89 => 194 | 12 => 12 | 56 => 167 | 82 => 187 | 5 => 5 | 83 => 188 | 84 => 189 | 85 => 190 | 86 => 191 | 87 => 192 | n => n, fun | n => n⟩
theorem Tryz.lays8 : Go.Proofs.LaysGt.n8 Tryz.prog Tryz.lays8_ren := {
  mixed := by kernel_rfl
  f8 := Tryz.func68.trans (congrArg some (by kernel_rfl))
  f13 := Tryz.func107.trans (congrArg some (by kernel_rfl))
  f14 := Tryz.func108.trans (congrArg some (by kernel_rfl))
  f15 := Tryz.func109.trans (congrArg some (by kernel_rfl))
  f16 := Tryz.func110.trans (congrArg some (by kernel_rfl))
  f29 := Tryz.func137.trans (congrArg some (by kernel_rfl))
  f30 := Tryz.func138.trans (congrArg some (by kernel_rfl))
  f42 := Tryz.func146.trans (congrArg some (by kernel_rfl))
  f49 := Tryz.func155.trans (congrArg some (by kernel_rfl))
  t0 := Tryz.underlying0
  a0 := Tryz.isAgg0
  z0 := Tryz.sizeOf0
  v0 := Tryz.zeroValue0
  i0 := by kernel_rfl
  t3 := Tryz.underlying3
  a3 := Tryz.isAgg3
  z3 := Tryz.sizeOf3
  v3 := Tryz.zeroValue3
  i3 := by kernel_rfl
  t4 := Tryz.underlying4
  a4 := Tryz.isAgg4
  z4 := Tryz.sizeOf4
  v4 := Tryz.zeroValue4
  i4 := by kernel_rfl
  t5 := Tryz.underlying5
  a5 := Tryz.isAgg5
  z5 := Tryz.sizeOf5
  v5 := Tryz.zeroValue5
  i5 := by kernel_rfl
  t12 := Tryz.underlying12
  a12 := Tryz.isAgg12
  z12 := Tryz.sizeOf12
  v12 := Tryz.zeroValue12
  i12 := by kernel_rfl
  t17 := Tryz.underlying17
  a17 := Tryz.isAgg17
  z17 := Tryz.sizeOf17
  v17 := Tryz.zeroValue17
  i17 := by kernel_rfl
  t20 := Tryz.underlying20
  a20 := Tryz.isAgg20
  z20 := Tryz.sizeOf20
  v20 := Tryz.zeroValue20
  i20 := by kernel_rfl
  t26 := Tryz.underlying84
  a26 := Tryz.isAgg84
  z26 := Tryz.sizeOf84
  v26 := Tryz.zeroValue84
  i26 := by kernel_rfl
  t33 := Tryz.underlying116
  a33 := Tryz.isAgg116
  z33 := Tryz.sizeOf116
  v33 := Tryz.zeroValue116
  i33 := by kernel_rfl
  t34 := Tryz.underlying117
  a34 := Tryz.isAgg117
  z34 := Tryz.sizeOf117
  v34 := Tryz.zeroValue117
  i34 := by kernel_rfl
  t36 := Tryz.underlying119
  a36 := Tryz.isAgg119
  z36 := Tryz.sizeOf119
  v36 := Tryz.zeroValue119
  i36 := by kernel_rfl
  t38 := Tryz.underlying121
  a38 := Tryz.isAgg121
  z38 := Tryz.sizeOf121
  v38 := Tryz.zeroValue121
  i38 := by kernel_rfl
  t42 := Tryz.underlying125
  a42 := Tryz.isAgg125
  z42 := Tryz.sizeOf125
  v42 := Tryz.zeroValue125
  i42 := by kernel_rfl
  t47 := Tryz.underlying145
  a47 := Tryz.isAgg145
  z47 := Tryz.sizeOf145
  v47 := Tryz.zeroValue145
  i47 := by kernel_rfl
  t56 := Tryz.underlying167
  a56 := Tryz.isAgg167
  z56 := Tryz.sizeOf167
  v56 := Tryz.zeroValue167
  i56 := by kernel_rfl
  t82 := Tryz.underlying187
  a82 := Tryz.isAgg187
  z82 := Tryz.sizeOf187
  v82 := Tryz.zeroValue187
  i82 := by kernel_rfl
  t83 := Tryz.underlying188
  a83 := Tryz.isAgg188
  z83 := Tryz.sizeOf188
  v83 := Tryz.zeroValue188
  i83 := by kernel_rfl
  t84 := Tryz.underlying189
  a84 := Tryz.isAgg189
  z84 := Tryz.sizeOf189
  v84 := Tryz.zeroValue189
  i84 := by kernel_rfl
  t85 := Tryz.underlying190
  a85 := Tryz.isAgg190
  z85 := Tryz.sizeOf190
  v85 := Tryz.zeroValue190
  i85 := by kernel_rfl
  t86 := Tryz.underlying191
  a86 := Tryz.isAgg191
  z86 := Tryz.sizeOf191
  v86 := Tryz.zeroValue191
  i86 := by kernel_rfl
  t87 := Tryz.underlying192
  a87 := Tryz.isAgg192
  z87 := Tryz.sizeOf192
  v87 := Tryz.zeroValue192
  i87 := by kernel_rfl
  t89 := Tryz.underlying194
  a89 := Tryz.isAgg194
  z89 := Tryz.sizeOf194
  v89 := Tryz.zeroValue194
  i89 := by kernel_rfl }
noncomputable def Tryz.ssT:TypeInfo:=(Tryz.prog.info? 29).get (by kernel_rfl)
noncomputable def Tryz.ssE:TypeInfo:=(Tryz.prog.info? 49).get (by kernel_rfl)
theorem Tryz.ssN:Tryz.lays8_ren.f 8=68:=by kernel_rfl
theorem Tryz.ss1:Tryz.prog.info? 29=some Tryz.ssT:=by kernel_rfl
theorem Tryz.ss2:Tryz.ssT.desc=.slice 49:=by kernel_rfl
theorem Tryz.ss3:Tryz.prog.packed 29=false:=by kernel_rfl
theorem Tryz.ss4:Tryz.prog.info? 49=some Tryz.ssE:=by kernel_rfl
theorem Tryz.ss5:∀w,(Extern.Rtype.kind 49).run Tryz.prog w=.ok 25 w:=fun _=>by kernel_rfl
theorem Tryz.ss6:Tryz.ssE.size=6:=by kernel_rfl
theorem Tryz.ss7:∀w,(isAgg 49).run Tryz.prog w=.ok true w:=fun _=>by kernel_rfl
theorem Tryz.ss8:∀args w,(callFunc 69 args).run Tryz.prog w=.ok (.enter 69 args) w:=enters_of Tryz.func69 (by kernel_rfl) rfl
theorem Tryz.ss9 (n:Nat) (h2:2≤n):Lib.swapperK n Tryz.ssE 25=9:=by
 have a:Tryz.ssE.hasPointers=true:=by kernel_rfl
 have b:Tryz.ssE.bytes=56:=by kernel_rfl
 have c:(n==0)=false:=by simp;omega
 have d:(n==1)=false:=by simp;omega
 simp[Lib.swapperK,a,b,c,d]
theorem Tryz.ss10:∀args W,(callFunc 136 args).run Tryz.prog W=((Extern.ReflectliteSwapper.swap false args).run Tryz.prog W).andThen fun v w'=>.ok (.value v) w':=
 fun args W=>run_callFunc_extern Tryz.func136 (by kernel_rfl) (by kernel_rfl) (by kernel_rfl) (e:=Extern.ReflectliteSwapper.swap false) (by kernel_rfl) args W
theorem Tryz.ss11 (n:Nat) (h2:2≤n):Tryz.prog.funcs.findIdx? (·.name== "internal/reflectlite" ++ ".Swapper$" ++toString (swapperK n Tryz.ssE 25))=some 136:=by rw[Tryz.ss9 n h2];kernel_rfl
theorem Tryz.ss12 (n:Nat) (h:n≤1):∃f,Tryz.prog.funcs.findIdx? (·.name== "internal/reflectlite" ++ ".Swapper$" ++toString (swapperK n Tryz.ssE 25))=some f:=by
 rcases Nat.le_one_iff_eq_zero_or_eq_one.1 h with rfl|rfl
 ·exact⟨128,by rw[show swapperK 0 Tryz.ssE 25=1 from rfl];kernel_rfl⟩
 ·exact⟨129,by rw[show swapperK 1 Tryz.ssE 25=2 from rfl];kernel_rfl⟩
end Go.Proofs
namespace Go.Vs
open Go Go.Proofs Go.IntWalk
set_option linter.unusedVariables false
def qO (x:Scan):List Value:=[.int .i64 x.Thing,.int .i64 x.At,.int .i64 x.Kind,.string x.Place,.int .i64 x.Trip.Leg,.int .i64 x.Trip.Day]
def ssI:Option Value→Int
 |some (.int _ n)=>n
 |_=>0
def ssS:Option Value→ByteArray
 |some (.string s)=>s
 |_=>.empty
def lU (l:List Value):Scan:=⟨ssI l[0]?,ssI l[1]?,ssI l[2]?,ssS l[3]?,⟨ssI l[4]?,ssI l[5]?⟩⟩
theorem vG (x:Scan):lU (qO x)=x:=rfl
def zq (x y:List Value):Bool:=decide (cmS (lU x) (lU y)<0)
theorem HG:Swo zq :={
 asym x y h:=by
  have:=jR.anti (lU x) (lU y)
  simp only[zq,decide_eq_true_eq,decide_eq_false_iff_not] at h ⊢;omega
 trans x y z h1 h2:=by
  have a:=jR.tr (lU x) (lU y) (lU z)
  have b:=jR.anti (lU x) (lU y)
  have c:=jR.anti (lU y) (lU z)
  have d:=jR.anti (lU x) (lU z)
  simp only[zq,decide_eq_false_iff_not] at h1 h2 ⊢;omega }
theorem A4 (l:List Scan):TE.real.d_Scan l=(l.map qO).map ql:=by
 rw[List.map_map];rfl
theorem FY (l:List Scan):TE.real.r_Scan l=(l.map qO).map uI:=by
 rw[List.map_map];rfl
theorem Hp (l:List Scan) (i j:Nat) (x y:List Value) (h1:(l.map qO)[i]?=some x) (h2:(l.map qO)[j]?=some y):Fn Tryz.prog 69 [.c (.v (.int .i64 i)),.c (.v (.int .i64 j)),.q [.s 6 ((l.map qO).map uI)]] (.c (.r (.v (.bool (zq x y))))):=by
 rw[List.getElem?_map] at h1 h2
 obtain⟨a,a1,rfl⟩:=Option.map_eq_some_iff.1 h1
 obtain⟨b,b1,rfl⟩:=Option.map_eq_some_iff.1 h2
 rw[←FY]
 refine sC rfl rfl ?_
 have ai:i<l.length:=(List.getElem?_eq_some_iff.1 a1).1
 have bi:j<l.length:=(List.getElem?_eq_some_iff.1 b1).1
 unfold mj
 simp only[aZ,Int.toNat_natCast,bv,aA,IW]
 rw[aj (by omega),az a1,aj (by omega),az b1]
 rfl
def qt (g:G) (t:TE) (a0:List Scan):Option (List Scan):=gd (a0.length<1152921504606846976)<|some (a0.mergeSort leS)
theorem wE {g:G} {t:TE} {a0 r:List Scan} (h:qt g t a0=some r):r.length=a0.length:=by
 obtain⟨_,h⟩:=al h
 cases h
 exact List.length_mergeSort _
theorem Ac {g:G} {t:TE} {a0 r:List Scan} (hg:g=G.real) (ht:t=TE.real) (h:qt g t a0=some r):ED Tryz.prog 68 29 69 6 (t.d_Scan a0) (t.d_Scan r):=by
 obtain⟨hl,h⟩:=al h;cases h
 subst ht;rw[A4,A4]
 have h:=H0 (enc:=qO) (lt:=zq) Tryz.lays8 29 49 Tryz.ssT Tryz.ssE Tryz.ss1 Tryz.ss2 Tryz.ss3 Tryz.ss4 25 Tryz.ss5 6 (by decide) Tryz.ss6 Tryz.ss7 HG 69 Tryz.ss8 136 Tryz.ss11 Tryz.ss12 false Tryz.ss10
  (fun a=>⟨rfl,fun v hv=>by simp only[qO,List.mem_cons,List.not_mem_nil,or_false] at hv;rcases hv with rfl|rfl|rfl|rfl|rfl|rfl<;>rfl⟩) Hp a0 (a0.mergeSort leS) hl (List.length_mergeSort _)
  (xC (enc:=qO) (lt:=zq) (le:=leS) (d0:=[]) (fun a b=>by unfold zq leS;rw[vG,vG,Bool.not_not]) Ex Dw Hn a0)
 rw[Tryz.ssN] at h;exact h
set_option maxRecDepth 100000
def ir20:J:=js [jq 2 (.box 0),jq 4 (.mv (.k (.c (.n 6))))] [1,2] (js [jq 11 (.bsl 6 []),jq 5 (.alloc [.n 6]),jp (.st 1 5 11)] [1,2,5] (.seq (js [jm 12 1,jm 13 1,jq 14 (.len false 13),jq 15 (.mnx false 14 (ki 200)),jq 16 (.sl 6 12 none (some 15)),jq 17 (.len false 16),jm 18 (ki 0)] [2,5,16,17,18] (.bl 0 (js [jb 19 .lss .i 18 17] [2,5,16,17,18,19] (.seq (.cond 19 .skip (.exit 0)) (.seq (.block 1 (js [ja 20 6 16 18,jl 21 6 20,jq 7 (.alloc [.r (.v (.int .i64 0)),.r (.v (.int .i64 0)),.r (.v (.int .i64 0)),.r (.v (.string .empty)),.r (.v (.int .i64 0)),.r (.v (.int .i64 0))]),jp (.st 6 7 21)] [2,5,7,16,17,18] (js [jl 22 3 2,jl 23 6 7,jc 24 67 [22,23]] [2,5,7,16,17,18,24] (.cond 24 (.reg none [jk 25 5,jl 26 6 7,jq 27 (.bsl 6 [26]),jq 28 (.app 6 56 true 25 27),jp (.st 1 5 28)] [2,5,16,17,18]) .skip)))) (.reg none [jb 29 .add .i 18 (ki 1),jm 18 29] [2,5,16,17,18])))))) (js [jk 30 5,jq 31 (.ifc 29 30),jq 32 (.clo true 69 [5]),jq 33 (.sst 68 31 32)] [5] (js [jq 34 (.bsl 6 []),jm 8 34] [5,8] (.seq (js [jk 35 5,jq 36 (.len false 35),jm 37 (ki 0)] [5,8,35,36,37] (.bl 2 (js [jb 38 .lss .i 37 36] [5,8,35,36,37,38] (.seq (.cond 38 .skip (.exit 2)) (.seq (.block 3 (js [jm 39 37,ja 40 6 35 37,jl 41 6 40,jq 10 (.alloc [.r (.v (.int .i64 0)),.r (.v (.int .i64 0)),.r (.v (.int .i64 0)),.r (.v (.string .empty)),.r (.v (.int .i64 0)),.r (.v (.int .i64 0))]),jm 9 39,jp (.st 6 10 41)] [5,8,9,10,35,36,37] (.seq (.reg (some [[],[0],[0,1],[0,1,2],[0,1,2],[0,1,2,4],[0,1,2,3,4,5],[0,1,2,3,4,5,6],[0,1,2],[0,1,2,3,4,5,6,7,8],[0,1,2,3,4,5,6,7,8,9]]) [jm 42 9,jb 43 .eql .i 42 (ki 0),jm 44 43,jv 45 44 (.ld false 1 5),jv 46 44 (.mv 9),jv 47 44 (.bin .sub .i 46 (ki 1)),jv 48 44 (.ia 6 45 47),jv 49 44 (.ld true 6 48),jv 50 44 (.ld true 6 10),jv 51 44 (.eqs true [.i,.i,.i,.s,.i,.i] 49 50),jq 52 (.pick 44 kt 51)] [5,8,10,35,36,37,52]) (.cond 52 (.reg none [jm 53 8,jl 54 6 10,jq 55 (.bsl 6 [54]),jq 56 (.app 6 56 true 53 55),jm 8 56] [5,8,35,36,37]) .skip)))) (.reg none [jb 57 .add .i 37 (ki 1),jm 37 57] [5,8,35,36,37])))))) (js [jm 58 8,jm 4 58] [4] .ret))))))
def rv20:List RV:=[.t 4]
open Go.Proofs Go.IntWalk
set_option maxHeartbeats 4000000
def cz (g:G) (t:TE) (l5:List Scan):Nat→Int→List Scan→Option (List Scan)
 |0,v2,w2=>
  some w2
 |n2+1,v2,w2=>
  gd (((0:Int)≤v2∧v2<(((g.dlen (t.d_Scan l5)):Nat):Int)))<|
  gt l5 (g.nat v2) fun x2=>
  br (g.eq v2 0)
  (
   lP ([(Scan.mk x2.Thing x2.At x2.Kind x2.Place (Trip.mk x2.Trip.Leg x2.Trip.Day))]) fun(l7:List Scan)=>
   gd (((w2.length+l7.length)*56≤70368744177664))<|
   lP (w2++l7) fun(l8:List Scan)=>
   cz g t l5 n2 (g.wrap .i64 (g.add v2 1)) l8)
  (
   gd (((0:Int)≤(g.wrap .i64 (g.sub v2 1))∧(g.wrap .i64 (g.sub v2 1))<(((g.dlen (t.d_Scan l5)):Nat):Int)))<|
   gt l5 (g.nat (g.wrap .i64 (g.sub v2 1))) fun x3=>
   br (g.all [(g.eq x3.Thing x2.Thing),(g.eq x3.At x2.At),(g.eq x3.Kind x2.Kind),(g.seq x3.Place x2.Place),(g.eq x3.Trip.Leg x2.Trip.Leg),(g.eq x3.Trip.Day x2.Trip.Day)])
   (
    cz g t l5 n2 (g.wrap .i64 (g.add v2 1)) w2)
   (
    lP ([(Scan.mk x2.Thing x2.At x2.Kind x2.Place (Trip.mk x2.Trip.Leg x2.Trip.Day))]) fun(l9:List Scan)=>
    gd (((w2.length+l9.length)*56≤70368744177664))<|
    lP (w2++l9) fun(l10:List Scan)=>
    cz g t l5 n2 (g.wrap .i64 (g.add v2 1)) l10))
def cY (g:G) (t:TE) (a0:Network):List Scan→List Scan→Option (List Scan)
 |[],w1=>
  some w1
 |z1::ls1,w1=>
  cl (iA g t a0 (Scan.mk z1.Thing z1.At z1.Kind z1.Place (Trip.mk z1.Trip.Leg z1.Trip.Day))) fun x1=>
  br x1
  (
   lP ([(Scan.mk z1.Thing z1.At z1.Kind z1.Place (Trip.mk z1.Trip.Leg z1.Trip.Day))]) fun(l3:List Scan)=>
   gd (((w1.length+l3.length)*56≤70368744177664))<|
   lP (w1++l3) fun(l4:List Scan)=>
   cY g t a0 ls1 l4)
  (
   cY g t a0 ls1 w1)
def g7 (g:G) (t:TE) (a0:Network) (a1:List Scan):Option (List Scan):=
 lP ([]) fun(l1:List Scan)=>
 gd (((0:Int)≤0∧0≤(g.imin (g.llen (t.r_Scan a1)) 200)∧(g.imin (g.llen (t.r_Scan a1)) 200)≤((((t.r_Scan a1).length):Nat):Int)))<|
 lP (List.drop (g.nat 0) (List.take (g.nat (g.imin (g.llen (t.r_Scan a1)) 200)) a1)) fun(l2:List Scan)=>
 cl (cY g t a0 l2 l1) fun y1=>
 cl (qt g t y1) fun(l5:List Scan)=>
 lP ([]) fun(l6:List Scan)=>
 gd (((g.int (g.dlen (t.d_Scan y1)))≤9223372036854775807))<|
 cl (cz g t l5 (ay 0 (g.int (g.dlen (t.d_Scan y1)))) 0 l6) fun y2=>
 some y2
theorem mt {g:G} {t:TE} {a0:Network} {a1:List Scan} {r:List Scan} (hg:g=G.real) (ht:t=TE.real) (h:g7 g t a0 a1=some r):Fn Tryz.prog 20 [.g (Network.rs t a0),.c (.s 6 (t.r_Scan a1))] (.c (.o 6 (t.d_Scan r))):=by
 obtain⟨X,hX⟩:=aH (.c (.o 6 (t.d_Scan r)):X);rw[←hX];refine aw (rvs:=rv20) (j:=ir20) Tryz.func20 rfl (by kernel_rfl) (nb rfl) (by kernel_rfl) af ?_;intro g2 F hg2 hF;obtain rfl:g2=g:=hg2.unique.trans hg.symm;clear hg2;obtain⟨wrap,lt,_,eq,_,_,_,_,_,_,_,_,int,add,_,_,_,seq,_,_,_,llen,_,_,dlen,_,_,_,_,_,_,_,_,all⟩:=g2;obtain⟨r_Leg,_,r_I64,_,r_Scan,d_Scan⟩:=t
 obtain⟨a0_Legs,a0_Off,a0_Change⟩:=a0;unfold g7 at h;try dsimp only at h
 cbv;obtain⟨l1,hl1,h⟩:=ak h;try dsimp only at h
 refine ANew.mk (d_Scan l1) (dlen (d_Scan l1)) (by rw[←hl1];exact cL hg ht []) (by rw[←hl1];exact bM hg ht []) ?_;cbv;obtain⟨hc1,h⟩:=al h;refine AStep.mk hc1 ?_;cbv;obtain⟨l2,hl2,h⟩:=ak h;try dsimp only at h
 refine AVal.mk (r_Scan l2) (by rw[←hl2];exact Ck hg ht _ _ _) ?_;cbv;obtain⟨o1,ho1,h⟩:=ac h;try dsimp only at h
 try rw[hg] at ho1
 try rw[ht] at ho1
 refine ABL.mk {p:Nat×Int×List Scan//p.1≤l2.length∧p.2.1=((p.1:Nat):Int)∧cY G.real TE.real (Network.mk a0_Legs a0_Off a0_Change) (List.drop p.1 l2) p.2.2=some o1} (fun⟨⟨k1,v1,w1⟩,_⟩=>({sl:=[(2,.c (.p 0 3 0 0)),(5,.c (.p 1 1 0 0)),(16,.c (.r (.s 6 (r_Scan l2)))),(17,.c (.r (.v (.int .i64 (llen (r_Scan l2)))))),(18,.c (.r (.v (.int .i64 v1))))],tab:=[(0,some (.foc 3 [] [.r (.s 6 (r_Leg a0_Legs)),.r (.s 1 (r_I64 a0_Off)),.r (.v (.int .i64 a0_Change))] [])),(1,some (.foc 1 [] [.f 2 6 0 (dlen (d_Scan w1))] [])),(2,some (.arr 6 (d_Scan w1)))]}:St)) 3 (fun p=>l2.length-p.1.1) ⟨(0,0,l1),Nat.zero_le _,rfl,ho1⟩ (List Scan) (fun y1=>({sl:=[(5,.c (.p 0 1 0 0))],tab:=[(0,some (.foc 1 [] [.f 1 6 0 (dlen (d_Scan y1))] [])),(1,some (.arr 6 (d_Scan y1)))]}:St)) 2 (fun y=>o1=y) ?_ ?_ ?_
 ·refine Wk.of [(0,some 0),(1,some 48),(2,some 32)] rfl rfl ?_ ?_
  ·cbv;all_goals exact⟨⟨_,rfl,rfl⟩,⟨_,rfl,rfl⟩,⟨_,rfl,rfl⟩,⟨_,rfl,rfl⟩,⟨_,rfl,rfl⟩,trivial⟩
  cbv;all_goals exact⟨⟨_,rfl,_,rfl,rfl,rfl,rfl,trivial⟩,⟨_,rfl,_,rfl,rfl,trivial⟩,⟨_,rfl,rfl⟩,trivial⟩
 ·rintro⟨⟨k1,v1,w1⟩,hk1,hi1,h_1⟩ hq1;have hm1:=(hq1.1 16 _ _ rfl);try dsimp only at hk1 hi1 h_1
  clear hq1;cbv
  by_cases hc1_:k1<l2.length
  ·have hb1:lt v1 (llen (r_Scan l2))=true:=gr hg ht hi1 hc1_;have hs1:=jZ hg ht hi1 hc1_ hm1;obtain⟨z1,hz1⟩:=aL hc1_;rw[aD hz1] at h_1;rw[cY] at h_1;obtain⟨z1_Thing,z1_At,z1_Kind,z1_Place,⟨z1_Trip_Leg,z1_Trip_Day⟩⟩:=z1;try rw[←hg] at h_1
   try rw[←ht] at h_1
   try dsimp only at h_1
   rw[hb1];cbv;refine AStep.mk (eO hi1) ?_;cbv;refine AGet.mk _ (bS hg ht hi1 hz1) ?_;cbv;obtain⟨x1,hx1,h_1⟩:=ac h_1;try dsimp only at h_1
   refine ACall.mk _ _ rfl (hF _ _ _ (jJ hg ht hx1)) (.inl rfl) (nb rfl) ?_;cbv
   cases hb2:x1
   ·rw[aa hb2] at h_1;cbv;try rw[hg] at h_1
    try rw[ht] at h_1
    refine⟨⟨(k1+1,(wrap .i64 (add v1 1)),w1),hc1_,hs1,h_1⟩,Wk.of [(0,some 0),(1,some 1),(2,some 2)] rfl rfl ?_ ?_,a8 hc1_⟩
    ·cbv;all_goals exact⟨⟨_,rfl,rfl⟩,⟨_,rfl,rfl⟩,⟨_,rfl,rfl⟩,⟨_,rfl,rfl⟩,⟨_,rfl,rfl⟩,trivial⟩
    cbv;all_goals exact⟨⟨_,rfl,_,rfl,rfl,rfl,rfl,trivial⟩,⟨_,rfl,_,rfl,rfl,trivial⟩,⟨_,rfl,rfl⟩,trivial⟩
   rw[ab hb2] at h_1;cbv;obtain⟨l3,hl3,h_1⟩:=ak h_1;try dsimp only at h_1
   refine ANew.mk (d_Scan l3) (dlen (d_Scan l3)) (by rw[←hl3];exact cL hg ht [(Scan.mk z1_Thing z1_At z1_Kind z1_Place (Trip.mk z1_Trip_Leg z1_Trip_Day))]) (by rw[←hl3];exact bM hg ht [(Scan.mk z1_Thing z1_At z1_Kind z1_Place (Trip.mk z1_Trip_Leg z1_Trip_Day))]) ?_;cbv;obtain⟨hc2,h_1⟩:=al h_1;refine AStep.mk ⟨⟨rfl,(ah hg ht _)⟩,(bO hg ht (ah hg ht _) rfl hc2)⟩ ?_;cbv;obtain⟨l4,hl4,h_1⟩:=ak h_1;try dsimp only at h_1
   refine ANew.mk (d_Scan l4) (dlen (d_Scan l4)) (by rw[←hl4];exact eJ hg ht (ah hg ht _) rfl) (by rw[←hl4];exact di hg ht (ah hg ht _) rfl) ?_;cbv;try rw[hg] at h_1
   try rw[ht] at h_1
   refine⟨⟨(k1+1,(wrap .i64 (add v1 1)),l4),hc1_,hs1,h_1⟩,Wk.of [(0,some 0),(1,some 1),(2,some 179)] rfl rfl ?_ ?_,a8 hc1_⟩
   ·cbv;all_goals exact⟨⟨_,rfl,rfl⟩,⟨_,rfl,rfl⟩,⟨_,rfl,rfl⟩,⟨_,rfl,rfl⟩,⟨_,rfl,rfl⟩,trivial⟩
   cbv;all_goals exact⟨⟨_,rfl,_,rfl,rfl,rfl,rfl,trivial⟩,⟨_,rfl,_,rfl,rfl,trivial⟩,⟨_,rfl,rfl⟩,trivial⟩
  have hb1:lt v1 (llen (r_Scan l2))=false:=fz hg ht hi1 hc1_;rw[List.drop_of_length_le (Nat.le_of_not_lt hc1_)] at h_1;rw[cY] at h_1;try rw[←hg] at h_1
  try rw[←ht] at h_1
  try dsimp only at h_1
  rw[hb1];cbv;refine⟨w1,Wk.of [(0,some 1),(1,some 2)] rfl rfl ?_ ?_,(Option.some.inj h_1).symm⟩
  ·cbv;all_goals exact⟨⟨_,rfl,rfl⟩,trivial⟩
  cbv;all_goals exact⟨⟨_,rfl,_,rfl,rfl,trivial⟩,⟨_,rfl,rfl⟩,trivial⟩
 rintro y1 hy1;replace hy1:=hy1.symm;subst hy1;try dsimp only[lr,lrL,lrp,aR] at h
 cbv;obtain⟨l5,hl5,h⟩:=ac h;try dsimp only at h
 have hc3:=wE hl5;refine AStep.mk ⟨(ah hg ht _),rfl⟩ ?_;cbv;refine ASst.mk (d_Scan l5) (hF _ _ _ (Ac hg ht hl5)) ?_;cbv;obtain⟨l6,hl6,h⟩:=ak h;try dsimp only at h
 refine ANew.mk (d_Scan l6) (dlen (d_Scan l6)) (by rw[←hl6];exact cL hg ht []) (by rw[←hl6];exact bM hg ht []) ?_;cbv;obtain⟨hB2,h⟩:=al h;obtain⟨o2,ho2,h⟩:=ac h;try dsimp only at h
 try rw[hg] at ho2
 try rw[ht] at ho2
 refine ABL.mk {p:Nat×Int×List Scan//p.1=ay p.2.1 (int (dlen (d_Scan y1)))∧0≤p.2.1∧cz G.real TE.real l5 p.1 p.2.1 p.2.2=some o2} (fun⟨⟨n2,v2,w2⟩,_⟩=>({sl:=[(5,.c (.p 0 1 0 0)),(8,.c (.f 2 6 0 (dlen (d_Scan w2)))),(35,.c (.f 1 6 0 (dlen (d_Scan l5)))),(36,.c (.r (.v (.int .i64 (int (dlen (d_Scan y1))))))),(37,.c (.r (.v (.int .i64 v2))))],tab:=[(0,some (.foc 1 [] [.f 1 6 0 (dlen (d_Scan l5))] [])),(1,some (.arr 6 (d_Scan l5))),(2,some (.arr 6 (d_Scan w2)))]}:St)) 3 (fun p=>p.1.1) ⟨(ay 0 (int (dlen (d_Scan y1))),0,l6),rfl,Int.le_refl _,ho2⟩ (List Scan) (fun y2=>({sl:=[(8,.c (.f 0 6 0 (dlen (d_Scan y2))))],tab:=[(0,some (.arr 6 (d_Scan y2)))]}:St)) 1 (fun y=>o2=y) ?_ ?_ ?_
 ·refine Wk.of [(0,some 0),(1,some 1),(2,some 66)] rfl rfl ?_ ?_
  ·cbv;all_goals try rw[show(dlen (d_Scan y1))=(dlen (d_Scan l5)) from((dj ht (ah hg ht _) hc3)).trans (ah hg ht _).symm]
   all_goals exact⟨⟨_,rfl,rfl⟩,⟨_,rfl,rfl⟩,⟨_,rfl,rfl⟩,⟨_,rfl,rfl⟩,⟨_,rfl,rfl⟩,trivial⟩
  cbv;all_goals try rw[show(dlen (d_Scan y1))=(dlen (d_Scan l5)) from((dj ht (ah hg ht _) hc3)).trans (ah hg ht _).symm]
  all_goals exact⟨⟨_,rfl,_,rfl,rfl,trivial⟩,⟨_,rfl,rfl⟩,⟨_,rfl,rfl⟩,trivial⟩
 ·rintro⟨⟨n2,v2,w2⟩,hn2,hi2,h_2⟩ hq2;try dsimp only at hn2 hi2 h_2
  clear hq2;cbv;rcases n2 with _|n2
  ·have hb3:lt v2 (int (dlen (d_Scan y1)))=false:=bu hg hn2;rw[cz] at h_2;try rw[←hg] at h_2
   try rw[←ht] at h_2
   try dsimp only at h_2
   rw[hb3];cbv;refine⟨w2,Wk.of [(0,some 2)] rfl rfl ?_ ?_,(Option.some.inj h_2).symm⟩
   ·cbv;all_goals exact⟨⟨_,rfl,rfl⟩,trivial⟩
   cbv;all_goals exact⟨⟨_,rfl,rfl⟩,trivial⟩
  have hb3:lt v2 (int (dlen (d_Scan y1)))=true:=bF hg hn2;have hl2:=d8 hn2;have hs2:=cM hg hn2 hi2 hB2 (by decide);rw[cz] at h_2;try rw[←hg] at h_2
  try rw[←ht] at h_2
  try dsimp only at h_2
  rw[hb3];cbv;obtain⟨hc4,h_2⟩:=al h_2;refine AStep.mk hc4 ?_;cbv;obtain⟨x2,hx2,h_2⟩:=aE h_2;obtain⟨x2_Thing,x2_At,x2_Kind,x2_Place,⟨x2_Trip_Leg,x2_Trip_Day⟩⟩:=x2;try dsimp only at h_2
  refine AGet.mk _ (aG hg ht hx2) ?_;cbv
  cases hb4:(eq v2 0)
  rotate_left
  ·rw[ab hb4] at h_2;cbv;iterate 7 try(rw[hb4];cbv)
   obtain⟨l7,hl7,h_2⟩:=ak h_2;try dsimp only at h_2
   refine ANew.mk (d_Scan l7) (dlen (d_Scan l7)) (by rw[←hl7];exact cL hg ht [(Scan.mk x2_Thing x2_At x2_Kind x2_Place (Trip.mk x2_Trip_Leg x2_Trip_Day))]) (by rw[←hl7];exact bM hg ht [(Scan.mk x2_Thing x2_At x2_Kind x2_Place (Trip.mk x2_Trip_Leg x2_Trip_Day))]) ?_;cbv;obtain⟨hc5,h_2⟩:=al h_2;refine AStep.mk ⟨⟨rfl,(ah hg ht _)⟩,(bO hg ht (ah hg ht _) rfl hc5)⟩ ?_;cbv;obtain⟨l8,hl8,h_2⟩:=ak h_2;try dsimp only at h_2
   refine ANew.mk (d_Scan l8) (dlen (d_Scan l8)) (by rw[←hl8];exact eJ hg ht (ah hg ht _) rfl) (by rw[←hl8];exact di hg ht (ah hg ht _) rfl) ?_;cbv;try rw[hg] at h_2
   try rw[ht] at h_2
   refine⟨⟨(n2,(wrap .i64 (add v2 1)),l8),hs2.1,hs2.2,h_2⟩,Wk.of [(0,some 0),(1,some 1),(2,some 339)] rfl rfl ?_ ?_,Nat.lt_succ_self _⟩
   ·cbv;all_goals exact⟨⟨_,rfl,rfl⟩,⟨_,rfl,rfl⟩,⟨_,rfl,rfl⟩,⟨_,rfl,rfl⟩,⟨_,rfl,rfl⟩,trivial⟩
   cbv;all_goals exact⟨⟨_,rfl,_,rfl,rfl,trivial⟩,⟨_,rfl,rfl⟩,⟨_,rfl,rfl⟩,trivial⟩
  rw[aa hb4] at h_2;cbv;iterate 3 try(rw[hb4];cbv)
  obtain⟨hc6,h_2⟩:=al h_2;refine AStep.mk hc6 ?_;cbv;try(rw[hb4];cbv)
  obtain⟨x3,hx3,h_2⟩:=aE h_2;obtain⟨x3_Thing,x3_At,x3_Kind,x3_Place,⟨x3_Trip_Leg,x3_Trip_Day⟩⟩:=x3;try dsimp only at h_2
  refine AGet.mk _ (aG hg ht hx3) ?_;cbv;iterate 3 try(rw[hb4];cbv)
  cases hb5:(all [(eq x3_Thing x2_Thing),(eq x3_At x2_At),(eq x3_Kind x2_Kind),(seq x3_Place x2_Place),(eq x3_Trip_Leg x2_Trip_Leg),(eq x3_Trip_Day x2_Trip_Day)])
  rotate_left
  ·rw[ab hb5] at h_2;cbv;try rw[hg] at h_2
   try rw[ht] at h_2
   refine⟨⟨(n2,(wrap .i64 (add v2 1)),w2),hs2.1,hs2.2,h_2⟩,Wk.of [(0,some 0),(1,some 1),(2,some 2)] rfl rfl ?_ ?_,Nat.lt_succ_self _⟩
   ·cbv;all_goals exact⟨⟨_,rfl,rfl⟩,⟨_,rfl,rfl⟩,⟨_,rfl,rfl⟩,⟨_,rfl,rfl⟩,⟨_,rfl,rfl⟩,trivial⟩
   cbv;all_goals exact⟨⟨_,rfl,_,rfl,rfl,trivial⟩,⟨_,rfl,rfl⟩,⟨_,rfl,rfl⟩,trivial⟩
  rw[aa hb5] at h_2;cbv;obtain⟨l9,hl9,h_2⟩:=ak h_2;try dsimp only at h_2
  refine ANew.mk (d_Scan l9) (dlen (d_Scan l9)) (by rw[←hl9];exact cL hg ht [(Scan.mk x2_Thing x2_At x2_Kind x2_Place (Trip.mk x2_Trip_Leg x2_Trip_Day))]) (by rw[←hl9];exact bM hg ht [(Scan.mk x2_Thing x2_At x2_Kind x2_Place (Trip.mk x2_Trip_Leg x2_Trip_Day))]) ?_;cbv;obtain⟨hc7,h_2⟩:=al h_2;refine AStep.mk ⟨⟨rfl,(ah hg ht _)⟩,(bO hg ht (ah hg ht _) rfl hc7)⟩ ?_;cbv;obtain⟨l10,hl10,h_2⟩:=ak h_2;try dsimp only at h_2
  refine ANew.mk (d_Scan l10) (dlen (d_Scan l10)) (by rw[←hl10];exact eJ hg ht (ah hg ht _) rfl) (by rw[←hl10];exact di hg ht (ah hg ht _) rfl) ?_;cbv;try rw[hg] at h_2
  try rw[ht] at h_2
  refine⟨⟨(n2,(wrap .i64 (add v2 1)),l10),hs2.1,hs2.2,h_2⟩,Wk.of [(0,some 0),(1,some 1),(2,some 339)] rfl rfl ?_ ?_,Nat.lt_succ_self _⟩
  ·cbv;all_goals exact⟨⟨_,rfl,rfl⟩,⟨_,rfl,rfl⟩,⟨_,rfl,rfl⟩,⟨_,rfl,rfl⟩,⟨_,rfl,rfl⟩,trivial⟩
  cbv;all_goals exact⟨⟨_,rfl,_,rfl,rfl,trivial⟩,⟨_,rfl,rfl⟩,⟨_,rfl,rfl⟩,trivial⟩
 rintro y2 hy2;replace hy2:=hy2.symm;subst hy2;try dsimp only[lr,lrL,lrp,aR] at h
 cbv;obtain rfl:=Option.some.inj h;exact ARet.mk ⟨rfl,(ah hg ht _)⟩ hX.symm
def ir76:J:=js [jq 2 (.box 0),jq 3 (.box 1),jm 4 kf] [2,3] (.seq (js [jf 5 0 2,jk 6 5,jf 7 0 3,jk 8 7,jb 9 .neq .i 6 8] [2,3,9] (.cond 9 (js [jm 4 kf] [4] .ret) .skip)) (.seq (js [jf 10 1 2,jk 11 10,jf 12 1 3,jk 13 12,jb 14 .neq .i 11 13] [14] (.cond 14 (js [jm 4 kf] [4] .ret) .skip)) (js [jm 4 kt] [4] .ret)))
def rv76:List RV:=[.t 4]
def mG (g:G) (t:TE) (a0:Trip) (a1:Trip):Bool:=
 br (g.eq a0.Leg a1.Leg)
 (
  br (g.eq a0.Day a1.Day)
  (
   true)
  (
   false))
 (
  false)
theorem ui {g:G} {t:TE} {a0:Trip} {a1:Trip} {r:Bool} (hg:g=G.real) (ht:t=TE.real) (h:mG g t a0 a1=r):Fn Tryz.prog 76 [.g (Trip.rs t a0),.g (Trip.rs t a1)] (.c (.r (.v (.bool r)))):=by
 obtain⟨X,hX⟩:=aH (.c (.r (.v (.bool r))):X);rw[←hX];refine aw (rvs:=rv76) (j:=ir76) Tryz.func76 rfl (by kernel_rfl) (nb rfl) (by kernel_rfl) af ?_;intro g2 F hg2 hF;obtain rfl:g2=g:=hg2.unique.trans hg.symm;clear hg2;obtain⟨_,_,_,eq⟩:=g2;obtain⟨_⟩:=t
 obtain⟨a0_Leg,a0_Day⟩:=a0;obtain⟨a1_Leg,a1_Day⟩:=a1;unfold mG at h;try dsimp only at h
 cbv
 cases hb1:(eq a0_Leg a1_Leg)
 ·rw[aa hb1] at h;cbv;subst h;exact ARet.mk trivial hX.symm
 rw[ab hb1] at h;cbv
 cases hb2:(eq a0_Day a1_Day)
 rotate_left
 ·rw[ab hb2] at h;cbv;subst h;exact ARet.mk trivial hX.symm
 rw[aa hb2] at h;cbv;subst h;exact ARet.mk trivial hX.symm
def ir37:J:=js [jq 2 (.box 0),jq 3 (.box 1),jm 4 kf] [2,3] (.seq (js [jf 5 0 2,jk 6 5,jf 7 0 3,jk 8 7,jb 9 .neq .i 6 8] [2,3,9] (.cond 9 (js [jm 4 kf] [4] .ret) .skip)) (.seq (js [jf 10 1 2,jk 11 10,jf 12 1 3,jk 13 12,jb 14 .neq .i 11 13] [2,3,14] (.cond 14 (js [jm 4 kf] [4] .ret) .skip)) (.seq (js [jf 15 2 2,jk 16 15,jf 17 2 3,jk 18 17,jb 19 .neq .i 16 18] [2,3,19] (.cond 19 (js [jm 4 kf] [4] .ret) .skip)) (.seq (js [jf 20 3 2,jk 21 20,jf 22 3 3,jk 23 22,jb 24 .neq .s 21 23] [2,3,24] (.cond 24 (js [jm 4 kf] [4] .ret) .skip)) (.seq (js [jf 25 4 2,jl 26 2 25,jf 27 4 3,jl 28 2 27,jc 29 76 [26,28],jq 30 (.not 29)] [30] (.cond 30 (js [jm 4 kf] [4] .ret) .skip)) (js [jm 4 kt] [4] .ret))))))
def rv37:List RV:=[.t 4]
def lF (g:G) (t:TE) (a0:Scan) (a1:Scan):Bool:=
 br (g.eq a0.Thing a1.Thing)
 (
  br (g.eq a0.At a1.At)
  (
   br (g.eq a0.Kind a1.Kind)
   (
    br (g.seq a0.Place a1.Place)
    (
     lP (mG g t (Trip.mk a0.Trip.Leg a0.Trip.Day) (Trip.mk a1.Trip.Leg a1.Trip.Day)) fun x1=>
     br x1
     (
      true)
     (
      false))
    (
     false))
   (
    false))
  (
   false))
 (
  false)
theorem pT {g:G} {t:TE} {a0:Scan} {a1:Scan} {r:Bool} (hg:g=G.real) (ht:t=TE.real) (h:lF g t a0 a1=r):Fn Tryz.prog 37 [.g (Scan.rs t a0),.g (Scan.rs t a1)] (.c (.r (.v (.bool r)))):=by
 obtain⟨X,hX⟩:=aH (.c (.r (.v (.bool r))):X);rw[←hX];refine aw (rvs:=rv37) (j:=ir37) Tryz.func37 rfl (by kernel_rfl) (nb rfl) (by kernel_rfl) af ?_;intro g2 F hg2 hF;obtain rfl:g2=g:=hg2.unique.trans hg.symm;clear hg2;obtain⟨_,_,_,eq,_,_,_,_,_,_,_,_,_,_,_,_,_,seq⟩:=g2;obtain⟨_⟩:=t
 obtain⟨a0_Thing,a0_At,a0_Kind,a0_Place,⟨a0_Trip_Leg,a0_Trip_Day⟩⟩:=a0;obtain⟨a1_Thing,a1_At,a1_Kind,a1_Place,⟨a1_Trip_Leg,a1_Trip_Day⟩⟩:=a1;unfold lF at h;try dsimp only at h
 cbv
 cases hb1:(eq a0_Thing a1_Thing)
 ·rw[aa hb1] at h;cbv;subst h;exact ARet.mk trivial hX.symm
 rw[ab hb1] at h;cbv
 cases hb2:(eq a0_At a1_At)
 ·rw[aa hb2] at h;cbv;subst h;exact ARet.mk trivial hX.symm
 rw[ab hb2] at h;cbv
 cases hb3:(eq a0_Kind a1_Kind)
 ·rw[aa hb3] at h;cbv;subst h;exact ARet.mk trivial hX.symm
 rw[ab hb3] at h;cbv
 cases hb4:(seq a0_Place a1_Place)
 ·rw[aa hb4] at h;cbv;subst h;exact ARet.mk trivial hX.symm
 rw[ab hb4] at h;cbv;obtain⟨x1,hx1,h⟩:=ak h;try dsimp only at h
 refine ACall.mk _ _ rfl (hF _ _ _ (ui hg ht hx1)) (.inl rfl) (nb rfl) ?_;cbv
 cases hb5:x1
 rotate_left
 ·rw[ab hb5] at h;cbv;subst h;exact ARet.mk trivial hX.symm
 rw[aa hb5] at h;cbv;subst h;exact ARet.mk trivial hX.symm
def ir21:J:=js [jm 4 kf] [0,1] (.seq (js [jm 6 0,jq 7 (.len false 6),jm 8 1,jq 9 (.len false 8),jb 10 .neq .i 7 9] [0,1,10] (.cond 10 (js [jm 4 kf] [4] .ret) .skip)) (.seq (js [jm 5 (ki 0)] [0,1,5] (.bl 0 (.seq (js [jm 11 5,jm 12 0,jq 13 (.len false 12),jb 14 .lss .i 11 13] [0,1,5,14] (.cond 14 .skip (.exit 0))) (.seq (.block 1 (.seq (.reg (some [[],[],[0,1],[0,1,2],[],[],[4,5],[4,5,6],[0,1,2,3,4,5,6,7],[0,1,2,3,4,5,6,7,8]]) [jm 17 0,jm 18 5,ja 19 6 17 18,jl 20 6 19,jm 21 1,jm 22 5,ja 23 6 21 22,jl 24 6 23,jc 25 37 [20,24],jq 26 (.not 25)] [0,1,5,26]) (.cond 26 (js [jm 4 kf] [4] .ret) .skip))) (.reg none [jm 15 5,jb 16 .add .i 15 (ki 1),jm 5 16] [0,1,5]))))) (js [jm 4 kt] [4] .ret)))
def rv21:List RV:=[.t 4]
def e7 (g:G) (t:TE) (a1:List Scan):List Scan→Int→Option (LR Bool Unit)
 |[],v1=>
  some (LR.out ())
 |z1::ls1,v1=>
  gt a1 (g.nat v1) fun x1=>
  lP (lF g t (Scan.mk z1.Thing z1.At z1.Kind z1.Place (Trip.mk z1.Trip.Leg z1.Trip.Day)) (Scan.mk x1.Thing x1.At x1.Kind x1.Place (Trip.mk x1.Trip.Leg x1.Trip.Day))) fun x2=>
  br x2
  (
   e7 g t a1 ls1 (g.wrap .i64 (g.add v1 1)))
  (
   some (LR.ret false))
def aT (g:G) (t:TE) (a0:List Scan) (a1:List Scan):Option Bool:=
 br (g.eq (g.llen (t.r_Scan a0)) (g.llen (t.r_Scan a1)))
 (
  cl (e7 g t a1 a0 0) fun o1=>lr o1 fun y1=>
  some true)
 (
  some false)
theorem aP {g:G} {t:TE} {a0:List Scan} {a1:List Scan} {r:Bool} (hg:g=G.real) (ht:t=TE.real) (h:aT g t a0 a1=some r):Fn Tryz.prog 21 [.c (.s 6 (t.r_Scan a0)),.c (.s 6 (t.r_Scan a1))] (.c (.r (.v (.bool r)))):=by
 obtain⟨X,hX⟩:=aH (.c (.r (.v (.bool r))):X);rw[←hX];refine aw (rvs:=rv21) (j:=ir21) Tryz.func21 rfl (by kernel_rfl) (nb rfl) (by kernel_rfl) af ?_;intro g2 F hg2 hF;obtain rfl:g2=g:=hg2.unique.trans hg.symm;clear hg2;obtain⟨wrap,lt,_,eq,_,_,_,_,_,_,_,_,_,add,_,_,_,_,_,_,_,llen⟩:=g2;obtain⟨_,_,_,_,r_Scan⟩:=t
 unfold aT at h;try dsimp only at h
 cbv
 cases hb1:(eq (llen (r_Scan a0)) (llen (r_Scan a1)))
 ·rw[aa hb1] at h;cbv;obtain rfl:=Option.some.inj h;exact ARet.mk trivial hX.symm
 rw[ab hb1] at h;cbv;obtain⟨o1,ho1,h⟩:=ac h;try dsimp only at h
 try rw[hg] at ho1
 try rw[ht] at ho1
 refine ABL.mk {p:Nat×Int//p.1≤a0.length∧p.2=((p.1:Nat):Int)∧e7 G.real TE.real a1 (List.drop p.1 a0) p.2=some o1} (fun⟨⟨k1,v1⟩,_⟩=>({sl:=[(0,.c (.r (.s 6 (r_Scan a0)))),(1,.c (.r (.s 6 (r_Scan a1)))),(5,.c (.r (.v (.int .i64 v1))))],tab:=[]}:St)) 0 (fun p=>a0.length-p.1.1) ⟨(0,0),Nat.zero_le _,rfl,ho1⟩ (Unit) (fun _=>({sl:=[],tab:=[]}:St)) 0 (fun y=>o1=LR.out y) ?_ ?_ ?_
 ·refine Wk.of [] rfl rfl ?_ ?_
  ·cbv;all_goals exact⟨⟨_,rfl,rfl⟩,⟨_,rfl,rfl⟩,⟨_,rfl,rfl⟩,trivial⟩
  cbv;all_goals exact trivial
 ·rintro⟨⟨k1,v1⟩,hk1,hi1,h_1⟩ hq1;have hm1:=(hq1.1 0 _ _ rfl);try dsimp only at hk1 hi1 h_1
  clear hq1;cbv
  by_cases hc1_:k1<a0.length
  ·have hb2:lt v1 (llen (r_Scan a0))=true:=gr hg ht hi1 hc1_;have hs1:=jZ hg ht hi1 hc1_ hm1;obtain⟨z1,hz1⟩:=aL hc1_;rw[aD hz1] at h_1;rw[e7] at h_1;obtain⟨z1_Thing,z1_At,z1_Kind,z1_Place,⟨z1_Trip_Leg,z1_Trip_Day⟩⟩:=z1;try rw[←hg] at h_1
   try rw[←ht] at h_1
   try dsimp only at h_1
   rw[hb2];cbv;refine AStep.mk (eO hi1) ?_;cbv;refine AGet.mk _ (bS hg ht hi1 hz1) ?_;cbv;refine AStep.mk (eO hi1) ?_;cbv;obtain⟨x1,hx1,h_1⟩:=aE h_1;obtain⟨x1_Thing,x1_At,x1_Kind,x1_Place,⟨x1_Trip_Leg,x1_Trip_Day⟩⟩:=x1;try dsimp only at h_1
   refine AGet.mk _ (nw hg ht hx1) ?_;cbv;obtain⟨x2,hx2,h_1⟩:=ak h_1;try dsimp only at h_1
   refine ACall.mk _ _ rfl (hF _ _ _ (pT hg ht hx2)) (.inl rfl) (nb rfl) ?_;cbv
   cases hb3:x2
   ·rw[aa hb3] at h_1;cbv;obtain rfl:=Option.some.inj h_1;try dsimp only[lr,lrL,lrp,aR] at h
    obtain rfl:=Option.some.inj h;exact ARet.mk trivial hX.symm
   rw[ab hb3] at h_1;cbv;try rw[hg] at h_1
   try rw[ht] at h_1
   refine⟨⟨(k1+1,(wrap .i64 (add v1 1))),hc1_,hs1,h_1⟩,Wk.of [] rfl rfl ?_ ?_,a8 hc1_⟩
   ·cbv;all_goals exact⟨⟨_,rfl,rfl⟩,⟨_,rfl,rfl⟩,⟨_,rfl,rfl⟩,trivial⟩
   cbv;all_goals exact trivial
  have hb2:lt v1 (llen (r_Scan a0))=false:=fz hg ht hi1 hc1_;rw[List.drop_of_length_le (Nat.le_of_not_lt hc1_)] at h_1;rw[e7] at h_1;try rw[←hg] at h_1
  try rw[←ht] at h_1
  try dsimp only at h_1
  rw[hb2];cbv;refine⟨(),Wk.of [] rfl rfl ?_ ?_,(Option.some.inj h_1).symm⟩
  ·cbv;all_goals exact trivial
  cbv;all_goals exact trivial
 rintro _ hy1;replace hy1:=hy1.symm;subst hy1;try dsimp only[lr,lrL,lrp,aR] at h
 cbv;obtain rfl:=Option.some.inj h;exact ARet.mk trivial hX.symm
def ir30:J:=js [jm 4 kf] [0,1] (.seq (js [jm 6 0,jq 7 (.len false 6),jm 8 1,jq 9 (.len false 8),jb 10 .neq .i 7 9] [0,1,10] (.cond 10 (js [jm 4 kf] [4] .ret) .skip)) (.seq (js [jm 5 (ki 0)] [0,1,5] (.bl 0 (.seq (js [jm 11 5,jm 12 0,jq 13 (.len false 12),jb 14 .lss .i 11 13] [0,1,5,14] (.cond 14 .skip (.exit 0))) (.seq (.block 1 (.seq (.reg (some [[],[],[0,1],[0,1,2],[],[],[4,5],[4,5,6],[0,1,2,3,4,5,6,7]]) [jm 17 0,jm 18 5,ja 19 1 17 18,jk 20 19,jm 21 1,jm 22 5,ja 23 1 21 22,jk 24 23,jb 25 .neq .i 20 24] [0,1,5,25]) (.cond 25 (js [jm 4 kf] [4] .ret) .skip))) (.reg none [jm 15 5,jb 16 .add .i 15 (ki 1),jm 5 16] [0,1,5]))))) (js [jm 4 kt] [4] .ret)))
def rv30:List RV:=[.t 4]
def fO (g:G) (t:TE) (a1:List Int):List Int→Int→Option (LR Bool Unit)
 |[],v1=>
  some (LR.out ())
 |z1::ls1,v1=>
  gt a1 (g.nat v1) fun x1=>
  br (g.eq z1 x1)
  (
   fO g t a1 ls1 (g.wrap .i64 (g.add v1 1)))
  (
   some (LR.ret false))
def km (g:G) (t:TE) (a0:List Int) (a1:List Int):Option Bool:=
 br (g.eq (g.llen (t.r_I64 a0)) (g.llen (t.r_I64 a1)))
 (
  cl (fO g t a1 a0 0) fun o1=>lr o1 fun y1=>
  some true)
 (
  some false)
theorem ny {g:G} {t:TE} {a0:List Int} {a1:List Int} {r:Bool} (hg:g=G.real) (ht:t=TE.real) (h:km g t a0 a1=some r):Fn Tryz.prog 30 [.c (.s 1 (t.r_I64 a0)),.c (.s 1 (t.r_I64 a1))] (.c (.r (.v (.bool r)))):=by
 obtain⟨X,hX⟩:=aH (.c (.r (.v (.bool r))):X);rw[←hX];refine aw (rvs:=rv30) (j:=ir30) Tryz.func30 rfl (by kernel_rfl) (nb rfl) (by kernel_rfl) af ?_;intro g2 F hg2 hF;obtain rfl:g2=g:=hg2.unique.trans hg.symm;clear hg2;obtain⟨wrap,lt,_,eq,_,_,_,_,_,_,_,_,_,add,_,_,_,_,_,_,_,llen⟩:=g2;obtain⟨_,_,r_I64⟩:=t
 unfold km at h;try dsimp only at h
 cbv
 cases hb1:(eq (llen (r_I64 a0)) (llen (r_I64 a1)))
 ·rw[aa hb1] at h;cbv;obtain rfl:=Option.some.inj h;exact ARet.mk trivial hX.symm
 rw[ab hb1] at h;cbv;obtain⟨o1,ho1,h⟩:=ac h;try dsimp only at h
 try rw[hg] at ho1
 try rw[ht] at ho1
 refine ABL.mk {p:Nat×Int//p.1≤a0.length∧p.2=((p.1:Nat):Int)∧fO G.real TE.real a1 (List.drop p.1 a0) p.2=some o1} (fun⟨⟨k1,v1⟩,_⟩=>({sl:=[(0,.c (.r (.s 1 (r_I64 a0)))),(1,.c (.r (.s 1 (r_I64 a1)))),(5,.c (.r (.v (.int .i64 v1))))],tab:=[]}:St)) 0 (fun p=>a0.length-p.1.1) ⟨(0,0),Nat.zero_le _,rfl,ho1⟩ (Unit) (fun _=>({sl:=[],tab:=[]}:St)) 0 (fun y=>o1=LR.out y) ?_ ?_ ?_
 ·refine Wk.of [] rfl rfl ?_ ?_
  ·cbv;all_goals exact⟨⟨_,rfl,rfl⟩,⟨_,rfl,rfl⟩,⟨_,rfl,rfl⟩,trivial⟩
  cbv;all_goals exact trivial
 ·rintro⟨⟨k1,v1⟩,hk1,hi1,h_1⟩ hq1;have hm1:=(hq1.1 0 _ _ rfl);try dsimp only at hk1 hi1 h_1
  clear hq1;cbv
  by_cases hc1_:k1<a0.length
  ·have hb2:lt v1 (llen (r_I64 a0))=true:=eX hg ht hi1 hc1_;have hs1:=iY hg ht hi1 hc1_ hm1;obtain⟨z1,hz1⟩:=aL hc1_;rw[aD hz1] at h_1;rw[fO] at h_1;try rw[←hg] at h_1
   try rw[←ht] at h_1
   try dsimp only at h_1
   rw[hb2];cbv;refine AStep.mk (eO hi1) ?_;cbv;refine AGet.mk _ (gf hg ht hi1 hz1) ?_;cbv;refine AStep.mk (eO hi1) ?_;cbv;obtain⟨x1,hx1,h_1⟩:=aE h_1;try dsimp only at h_1
   refine AGet.mk _ (lf hg ht hx1) ?_;cbv
   cases hb3:(eq z1 x1)
   ·rw[aa hb3] at h_1;cbv;obtain rfl:=Option.some.inj h_1;try dsimp only[lr,lrL,lrp,aR] at h
    obtain rfl:=Option.some.inj h;exact ARet.mk trivial hX.symm
   rw[ab hb3] at h_1;cbv;try rw[hg] at h_1
   try rw[ht] at h_1
   refine⟨⟨(k1+1,(wrap .i64 (add v1 1))),hc1_,hs1,h_1⟩,Wk.of [] rfl rfl ?_ ?_,a8 hc1_⟩
   ·cbv;all_goals exact⟨⟨_,rfl,rfl⟩,⟨_,rfl,rfl⟩,⟨_,rfl,rfl⟩,trivial⟩
   cbv;all_goals exact trivial
  have hb2:lt v1 (llen (r_I64 a0))=false:=eB hg ht hi1 hc1_;rw[List.drop_of_length_le (Nat.le_of_not_lt hc1_)] at h_1;rw[fO] at h_1;try rw[←hg] at h_1
  try rw[←ht] at h_1
  try dsimp only at h_1
  rw[hb2];cbv;refine⟨(),Wk.of [] rfl rfl ?_ ?_,(Option.some.inj h_1).symm⟩
  ·cbv;all_goals exact trivial
  cbv;all_goals exact trivial
 rintro _ hy1;replace hy1:=hy1.symm;subst hy1;try dsimp only[lr,lrL,lrp,aR] at h
 cbv;obtain rfl:=Option.some.inj h;exact ARet.mk trivial hX.symm
def H3:J:=js [jq 2 (.box 0),jq 3 (.box 1),jm 4 kf] [2,3] (.seq (js [jf 5 0 2,jk 6 5,jf 7 0 3,jk 8 7,jb 9 .neq .s 6 8] [2,3,9] (.cond 9 (js [jm 4 kf] [4] .ret) .skip)) (.seq (js [jf 10 1 2,jk 11 10,jf 12 1 3,jk 13 12,jb 14 .neq .s 11 13] [2,3,14] (.cond 14 (js [jm 4 kf] [4] .ret) .skip)) (.seq (js [jf 15 2 2,jk 16 15,jf 17 2 3,jk 18 17,jb 19 .neq .i 16 18] [2,3,19] (.cond 19 (js [jm 4 kf] [4] .ret) .skip)) (.seq (js [jf 20 3 2,jk 21 20,jf 22 3 3,jk 23 22,jb 24 .neq .i 21 23] [2,3,24] (.cond 24 (js [jm 4 kf] [4] .ret) .skip)) (.seq (js [jf 25 4 2,jk 26 25,jf 27 4 3,jk 28 27,jb 29 .neq .i 26 28] [2,3,29] (.cond 29 (js [jm 4 kf] [4] .ret) .skip)) (.seq (js [jf 30 5 2,jk 31 30,jf 32 5 3,jk 33 32,jb 34 .neq .i 31 33] [34] (.cond 34 (js [jm 4 kf] [4] .ret) .skip)) (js [jm 4 kt] [4] .ret)))))))
def IOq:List RV:=[.t 4]
def qr (g:G) (t:TE) (a0:Leg) (a1:Leg):Bool:=
 br (g.seq a0.From a1.From)
 (
  br (g.seq a0.To a1.To)
  (
   br (g.eq a0.Start a1.Start)
   (
    br (g.eq a0.Takes a1.Takes)
    (
     br (g.eq a0.Days a1.Days)
     (
      br (g.eq a0.Room a1.Room)
      (
       true)
      (
       false))
     (
      false))
    (
     false))
   (
    false))
  (
   false))
 (
  false)
theorem Ch {g:G} {t:TE} {a0:Leg} {a1:Leg} {r:Bool} (hg:g=G.real) (ht:t=TE.real) (h:qr g t a0 a1=r):Fn Tryz.prog 114 [.g (Leg.rs t a0),.g (Leg.rs t a1)] (.c (.r (.v (.bool r)))):=by
 obtain⟨X,hX⟩:=aH (.c (.r (.v (.bool r))):X);rw[←hX];refine aw (rvs:=IOq) (j:=H3) Tryz.func114 rfl (by kernel_rfl) (nb rfl) (by kernel_rfl) af ?_;intro g2 F hg2 hF;obtain rfl:g2=g:=hg2.unique.trans hg.symm;clear hg2;obtain⟨_,_,_,eq,_,_,_,_,_,_,_,_,_,_,_,_,_,seq⟩:=g2;obtain⟨_⟩:=t
 obtain⟨a0_From,a0_To,a0_Start,a0_Takes,a0_Days,a0_Room⟩:=a0;obtain⟨a1_From,a1_To,a1_Start,a1_Takes,a1_Days,a1_Room⟩:=a1;unfold qr at h;try dsimp only at h
 cbv
 cases hb1:(seq a0_From a1_From)
 ·rw[aa hb1] at h;cbv;subst h;exact ARet.mk trivial hX.symm
 rw[ab hb1] at h;cbv
 cases hb2:(seq a0_To a1_To)
 ·rw[aa hb2] at h;cbv;subst h;exact ARet.mk trivial hX.symm
 rw[ab hb2] at h;cbv
 cases hb3:(eq a0_Start a1_Start)
 ·rw[aa hb3] at h;cbv;subst h;exact ARet.mk trivial hX.symm
 rw[ab hb3] at h;cbv
 cases hb4:(eq a0_Takes a1_Takes)
 ·rw[aa hb4] at h;cbv;subst h;exact ARet.mk trivial hX.symm
 rw[ab hb4] at h;cbv
 cases hb5:(eq a0_Days a1_Days)
 ·rw[aa hb5] at h;cbv;subst h;exact ARet.mk trivial hX.symm
 rw[ab hb5] at h;cbv
 cases hb6:(eq a0_Room a1_Room)
 rotate_left
 ·rw[ab hb6] at h;cbv;subst h;exact ARet.mk trivial hX.symm
 rw[aa hb6] at h;cbv;subst h;exact ARet.mk trivial hX.symm
def ir71:J:=js [jm 4 kf] [0,1] (.seq (js [jm 6 0,jq 7 (.len false 6),jm 8 1,jq 9 (.len false 8),jb 10 .neq .i 7 9] [0,1,10] (.cond 10 (js [jm 4 kf] [4] .ret) .skip)) (.seq (js [jm 5 (ki 0)] [0,1,5] (.bl 0 (.seq (js [jm 11 5,jm 12 0,jq 13 (.len false 12),jb 14 .lss .i 11 13] [0,1,5,14] (.cond 14 .skip (.exit 0))) (.seq (.block 1 (.seq (.reg (some [[],[],[0,1],[0,1,2],[],[],[4,5],[4,5,6],[0,1,2,3,4,5,6,7],[0,1,2,3,4,5,6,7,8]]) [jm 17 0,jm 18 5,ja 19 6 17 18,jl 20 6 19,jm 21 1,jm 22 5,ja 23 6 21 22,jl 24 6 23,jc 25 114 [20,24],jq 26 (.not 25)] [0,1,5,26]) (.cond 26 (js [jm 4 kf] [4] .ret) .skip))) (.reg none [jm 15 5,jb 16 .add .i 15 (ki 1),jm 5 16] [0,1,5]))))) (js [jm 4 kt] [4] .ret)))
def rv71:List RV:=[.t 4]
def fF (g:G) (t:TE) (a1:List Leg):List Leg→Int→Option (LR Bool Unit)
 |[],v1=>
  some (LR.out ())
 |z1::ls1,v1=>
  gt a1 (g.nat v1) fun x1=>
  lP (qr g t z1 x1) fun x2=>
  br x2
  (
   fF g t a1 ls1 (g.wrap .i64 (g.add v1 1)))
  (
   some (LR.ret false))
def nP (g:G) (t:TE) (a0:List Leg) (a1:List Leg):Option Bool:=
 br (g.eq (g.llen (t.r_Leg a0)) (g.llen (t.r_Leg a1)))
 (
  cl (fF g t a1 a0 0) fun o1=>lr o1 fun y1=>
  some true)
 (
  some false)
theorem zr {g:G} {t:TE} {a0:List Leg} {a1:List Leg} {r:Bool} (hg:g=G.real) (ht:t=TE.real) (h:nP g t a0 a1=some r):Fn Tryz.prog 71 [.c (.s 6 (t.r_Leg a0)),.c (.s 6 (t.r_Leg a1))] (.c (.r (.v (.bool r)))):=by
 obtain⟨X,hX⟩:=aH (.c (.r (.v (.bool r))):X);rw[←hX];refine aw (rvs:=rv71) (j:=ir71) Tryz.func71 rfl (by kernel_rfl) (nb rfl) (by kernel_rfl) af ?_;intro g2 F hg2 hF;obtain rfl:g2=g:=hg2.unique.trans hg.symm;clear hg2;obtain⟨wrap,lt,_,eq,_,_,_,_,_,_,_,_,_,add,_,_,_,_,_,_,_,llen⟩:=g2;obtain⟨r_Leg⟩:=t
 unfold nP at h;try dsimp only at h
 cbv
 cases hb1:(eq (llen (r_Leg a0)) (llen (r_Leg a1)))
 ·rw[aa hb1] at h;cbv;obtain rfl:=Option.some.inj h;exact ARet.mk trivial hX.symm
 rw[ab hb1] at h;cbv;obtain⟨o1,ho1,h⟩:=ac h;try dsimp only at h
 try rw[hg] at ho1
 try rw[ht] at ho1
 refine ABL.mk {p:Nat×Int//p.1≤a0.length∧p.2=((p.1:Nat):Int)∧fF G.real TE.real a1 (List.drop p.1 a0) p.2=some o1} (fun⟨⟨k1,v1⟩,_⟩=>({sl:=[(0,.c (.r (.s 6 (r_Leg a0)))),(1,.c (.r (.s 6 (r_Leg a1)))),(5,.c (.r (.v (.int .i64 v1))))],tab:=[]}:St)) 0 (fun p=>a0.length-p.1.1) ⟨(0,0),Nat.zero_le _,rfl,ho1⟩ (Unit) (fun _=>({sl:=[],tab:=[]}:St)) 0 (fun y=>o1=LR.out y) ?_ ?_ ?_
 ·refine Wk.of [] rfl rfl ?_ ?_
  ·cbv;all_goals exact⟨⟨_,rfl,rfl⟩,⟨_,rfl,rfl⟩,⟨_,rfl,rfl⟩,trivial⟩
  cbv;all_goals exact trivial
 ·rintro⟨⟨k1,v1⟩,hk1,hi1,h_1⟩ hq1;have hm1:=(hq1.1 0 _ _ rfl);try dsimp only at hk1 hi1 h_1
  clear hq1;cbv
  by_cases hc1_:k1<a0.length
  ·have hb2:lt v1 (llen (r_Leg a0))=true:=dw hg ht hi1 hc1_;have hs1:=gw hg ht hi1 hc1_ hm1;obtain⟨z1,hz1⟩:=aL hc1_;rw[aD hz1] at h_1;rw[fF] at h_1;obtain⟨z1_From,z1_To,z1_Start,z1_Takes,z1_Days,z1_Room⟩:=z1;try rw[←hg] at h_1
   try rw[←ht] at h_1
   try dsimp only at h_1
   rw[hb2];cbv;refine AStep.mk (eO hi1) ?_;cbv;refine AGet.mk _ (fS hg ht hi1 hz1) ?_;cbv;refine AStep.mk (eO hi1) ?_;cbv;obtain⟨x1,hx1,h_1⟩:=aE h_1;obtain⟨x1_From,x1_To,x1_Start,x1_Takes,x1_Days,x1_Room⟩:=x1;try dsimp only at h_1
   refine AGet.mk _ (aF hg ht hx1) ?_;cbv;obtain⟨x2,hx2,h_1⟩:=ak h_1;try dsimp only at h_1
   refine ACall.mk _ _ rfl (hF _ _ _ (Ch hg ht hx2)) (.inl rfl) (nb rfl) ?_;cbv
   cases hb3:x2
   ·rw[aa hb3] at h_1;cbv;obtain rfl:=Option.some.inj h_1;try dsimp only[lr,lrL,lrp,aR] at h
    obtain rfl:=Option.some.inj h;exact ARet.mk trivial hX.symm
   rw[ab hb3] at h_1;cbv;try rw[hg] at h_1
   try rw[ht] at h_1
   refine⟨⟨(k1+1,(wrap .i64 (add v1 1))),hc1_,hs1,h_1⟩,Wk.of [] rfl rfl ?_ ?_,a8 hc1_⟩
   ·cbv;all_goals exact⟨⟨_,rfl,rfl⟩,⟨_,rfl,rfl⟩,⟨_,rfl,rfl⟩,trivial⟩
   cbv;all_goals exact trivial
  have hb2:lt v1 (llen (r_Leg a0))=false:=cR hg ht hi1 hc1_;rw[List.drop_of_length_le (Nat.le_of_not_lt hc1_)] at h_1;rw[fF] at h_1;try rw[←hg] at h_1
  try rw[←ht] at h_1
  try dsimp only at h_1
  rw[hb2];cbv;refine⟨(),Wk.of [] rfl rfl ?_ ?_,(Option.some.inj h_1).symm⟩
  ·cbv;all_goals exact trivial
  cbv;all_goals exact trivial
 rintro _ hy1;replace hy1:=hy1.symm;subst hy1;try dsimp only[lr,lrL,lrp,aR] at h
 cbv;obtain rfl:=Option.some.inj h;exact ARet.mk trivial hX.symm
def ir22:J:=js [jq 2 (.box 0),jq 3 (.box 1),jm 4 kf] [2,3] (.seq (js [jf 5 0 2,jk 6 5,jf 7 0 3,jk 8 7,jc 9 71 [6,8],jq 10 (.not 9)] [2,3,10] (.cond 10 (js [jm 4 kf] [4] .ret) .skip)) (.seq (js [jf 11 1 2,jk 12 11,jf 13 1 3,jk 14 13,jc 15 30 [12,14],jq 16 (.not 15)] [2,3,16] (.cond 16 (js [jm 4 kf] [4] .ret) .skip)) (.seq (js [jf 17 2 2,jk 18 17,jf 19 2 3,jk 20 19,jb 21 .neq .i 18 20] [21] (.cond 21 (js [jm 4 kf] [4] .ret) .skip)) (js [jm 4 kt] [4] .ret))))
def rv22:List RV:=[.t 4]
def be (g:G) (t:TE) (a0:Network) (a1:Network):Option Bool:=
 cl (nP g t a0.Legs a1.Legs) fun x1=>
 br x1
 (
  cl (km g t a0.Off a1.Off) fun x2=>
  br x2
  (
   br (g.eq a0.Change a1.Change)
   (
    some true)
   (
    some false))
  (
   some false))
 (
  some false)
theorem bd {g:G} {t:TE} {a0:Network} {a1:Network} {r:Bool} (hg:g=G.real) (ht:t=TE.real) (h:be g t a0 a1=some r):Fn Tryz.prog 22 [.g (Network.rs t a0),.g (Network.rs t a1)] (.c (.r (.v (.bool r)))):=by
 obtain⟨X,hX⟩:=aH (.c (.r (.v (.bool r))):X);rw[←hX];refine aw (rvs:=rv22) (j:=ir22) Tryz.func22 rfl (by kernel_rfl) (nb rfl) (by kernel_rfl) af ?_;intro g2 F hg2 hF;obtain rfl:g2=g:=hg2.unique.trans hg.symm;clear hg2;obtain⟨_,_,_,eq⟩:=g2;obtain⟨_⟩:=t
 obtain⟨a0_Legs,a0_Off,a0_Change⟩:=a0;obtain⟨a1_Legs,a1_Off,a1_Change⟩:=a1;unfold be at h;try dsimp only at h
 cbv;obtain⟨x1,hx1,h⟩:=ac h;try dsimp only at h
 refine ACall.mk _ _ rfl (hF _ _ _ (zr hg ht hx1)) (.inl rfl) (nb rfl) ?_;cbv
 cases hb1:x1
 ·rw[aa hb1] at h;cbv;obtain rfl:=Option.some.inj h;exact ARet.mk trivial hX.symm
 rw[ab hb1] at h;cbv;obtain⟨x2,hx2,h⟩:=ac h;try dsimp only at h
 refine ACall.mk _ _ rfl (hF _ _ _ (ny hg ht hx2)) (.inl rfl) (nb rfl) ?_;cbv
 cases hb2:x2
 ·rw[aa hb2] at h;cbv;obtain rfl:=Option.some.inj h;exact ARet.mk trivial hX.symm
 rw[ab hb2] at h;cbv
 cases hb3:(eq a0_Change a1_Change)
 rotate_left
 ·rw[ab hb3] at h;cbv;obtain rfl:=Option.some.inj h;exact ARet.mk trivial hX.symm
 rw[aa hb3] at h;cbv;obtain rfl:=Option.some.inj h;exact ARet.mk trivial hX.symm
def ir56:J:=js [jm 4 kf] [0,1] (.seq (js [jm 6 0,jq 7 (.len false 6),jm 8 1,jq 9 (.len false 8),jb 10 .neq .i 7 9] [0,1,10] (.cond 10 (js [jm 4 kf] [4] .ret) .skip)) (.seq (js [jm 5 (ki 0)] [0,1,5] (.bl 0 (.seq (js [jm 11 5,jm 12 0,jq 13 (.len false 12),jb 14 .lss .i 11 13] [0,1,5,14] (.cond 14 .skip (.exit 0))) (.seq (.block 1 (.seq (.reg (some [[],[],[0,1],[0,1,2],[],[],[4,5],[4,5,6],[0,1,2,3,4,5,6,7]]) [jm 17 0,jm 18 5,ja 19 1 17 18,jk 20 19,jm 21 1,jm 22 5,ja 23 1 21 22,jk 24 23,jb 25 .neq .s 20 24] [0,1,5,25]) (.cond 25 (js [jm 4 kf] [4] .ret) .skip))) (.reg none [jm 15 5,jb 16 .add .i 15 (ki 1),jm 5 16] [0,1,5]))))) (js [jm 4 kt] [4] .ret)))
def rv56:List RV:=[.t 4]
def dK (g:G) (t:TE) (a1:List ByteArray):List ByteArray→Int→Option (LR Bool Unit)
 |[],v1=>
  some (LR.out ())
 |z1::ls1,v1=>
  gt a1 (g.nat v1) fun x1=>
  br (g.seq z1 x1)
  (
   dK g t a1 ls1 (g.wrap .i64 (g.add v1 1)))
  (
   some (LR.ret false))
def fP (g:G) (t:TE) (a0:List ByteArray) (a1:List ByteArray):Option Bool:=
 br (g.eq (g.llen (t.r_S a0)) (g.llen (t.r_S a1)))
 (
  cl (dK g t a1 a0 0) fun o1=>lr o1 fun y1=>
  some true)
 (
  some false)
theorem kb {g:G} {t:TE} {a0:List ByteArray} {a1:List ByteArray} {r:Bool} (hg:g=G.real) (ht:t=TE.real) (h:fP g t a0 a1=some r):Fn Tryz.prog 56 [.c (.s 1 (t.r_S a0)),.c (.s 1 (t.r_S a1))] (.c (.r (.v (.bool r)))):=by
 obtain⟨X,hX⟩:=aH (.c (.r (.v (.bool r))):X);rw[←hX];refine aw (rvs:=rv56) (j:=ir56) Tryz.func56 rfl (by kernel_rfl) (nb rfl) (by kernel_rfl) af ?_;intro g2 F hg2 hF;obtain rfl:g2=g:=hg2.unique.trans hg.symm;clear hg2;obtain⟨wrap,lt,_,eq,_,_,_,_,_,_,_,_,_,add,_,_,_,seq,_,_,_,llen⟩:=g2;obtain⟨_,_,_,_,_,_,r_S⟩:=t
 unfold fP at h;try dsimp only at h
 cbv
 cases hb1:(eq (llen (r_S a0)) (llen (r_S a1)))
 ·rw[aa hb1] at h;cbv;obtain rfl:=Option.some.inj h;exact ARet.mk trivial hX.symm
 rw[ab hb1] at h;cbv;obtain⟨o1,ho1,h⟩:=ac h;try dsimp only at h
 try rw[hg] at ho1
 try rw[ht] at ho1
 refine ABL.mk {p:Nat×Int//p.1≤a0.length∧p.2=((p.1:Nat):Int)∧dK G.real TE.real a1 (List.drop p.1 a0) p.2=some o1} (fun⟨⟨k1,v1⟩,_⟩=>({sl:=[(0,.c (.r (.s 1 (r_S a0)))),(1,.c (.r (.s 1 (r_S a1)))),(5,.c (.r (.v (.int .i64 v1))))],tab:=[]}:St)) 0 (fun p=>a0.length-p.1.1) ⟨(0,0),Nat.zero_le _,rfl,ho1⟩ (Unit) (fun _=>({sl:=[],tab:=[]}:St)) 0 (fun y=>o1=LR.out y) ?_ ?_ ?_
 ·refine Wk.of [] rfl rfl ?_ ?_
  ·cbv;all_goals exact⟨⟨_,rfl,rfl⟩,⟨_,rfl,rfl⟩,⟨_,rfl,rfl⟩,trivial⟩
  cbv;all_goals exact trivial
 ·rintro⟨⟨k1,v1⟩,hk1,hi1,h_1⟩ hq1;have hm1:=(hq1.1 0 _ _ rfl);try dsimp only at hk1 hi1 h_1
  clear hq1;cbv
  by_cases hc1_:k1<a0.length
  ·have hb2:lt v1 (llen (r_S a0))=true:=lK hg ht hi1 hc1_;have hs1:=qe hg ht hi1 hc1_ hm1;obtain⟨z1,hz1⟩:=aL hc1_;rw[aD hz1] at h_1;rw[dK] at h_1;try rw[←hg] at h_1
   try rw[←ht] at h_1
   try dsimp only at h_1
   rw[hb2];cbv;refine AStep.mk (eO hi1) ?_;cbv;refine AGet.mk _ (qh hg ht hi1 hz1) ?_;cbv;refine AStep.mk (eO hi1) ?_;cbv;obtain⟨x1,hx1,h_1⟩:=aE h_1;try dsimp only at h_1
   refine AGet.mk _ (AF hg ht hx1) ?_;cbv
   cases hb3:(seq z1 x1)
   ·rw[aa hb3] at h_1;cbv;obtain rfl:=Option.some.inj h_1;try dsimp only[lr,lrL,lrp,aR] at h
    obtain rfl:=Option.some.inj h;exact ARet.mk trivial hX.symm
   rw[ab hb3] at h_1;cbv;try rw[hg] at h_1
   try rw[ht] at h_1
   refine⟨⟨(k1+1,(wrap .i64 (add v1 1))),hc1_,hs1,h_1⟩,Wk.of [] rfl rfl ?_ ?_,a8 hc1_⟩
   ·cbv;all_goals exact⟨⟨_,rfl,rfl⟩,⟨_,rfl,rfl⟩,⟨_,rfl,rfl⟩,trivial⟩
   cbv;all_goals exact trivial
  have hb2:lt v1 (llen (r_S a0))=false:=kG hg ht hi1 hc1_;rw[List.drop_of_length_le (Nat.le_of_not_lt hc1_)] at h_1;rw[dK] at h_1;try rw[←hg] at h_1
  try rw[←ht] at h_1
  try dsimp only at h_1
  rw[hb2];cbv;refine⟨(),Wk.of [] rfl rfl ?_ ?_,(Option.some.inj h_1).symm⟩
  ·cbv;all_goals exact trivial
  cbv;all_goals exact trivial
 rintro _ hy1;replace hy1:=hy1.symm;subst hy1;try dsimp only[lr,lrL,lrp,aR] at h
 cbv;obtain rfl:=Option.some.inj h;exact ARet.mk trivial hX.symm
def ir95:J:=js [jm 4 kf] [0,1] (.seq (js [jm 6 0,jq 7 (.len false 6),jm 8 1,jq 9 (.len false 8),jb 10 .neq .i 7 9] [0,1,10] (.cond 10 (js [jm 4 kf] [4] .ret) .skip)) (.seq (js [jm 5 (ki 0)] [0,1,5] (.bl 0 (.seq (js [jm 11 5,jm 12 0,jq 13 (.len false 12),jb 14 .lss .i 11 13] [0,1,5,14] (.cond 14 .skip (.exit 0))) (.seq (.block 1 (.seq (.reg (some [[],[],[0,1],[0,1,2],[],[],[4,5],[4,5,6],[0,1,2,3,4,5,6,7],[0,1,2,3,4,5,6,7,8]]) [jm 17 0,jm 18 5,ja 19 2 17 18,jl 20 2 19,jm 21 1,jm 22 5,ja 23 2 21 22,jl 24 2 23,jc 25 76 [20,24],jq 26 (.not 25)] [0,1,5,26]) (.cond 26 (js [jm 4 kf] [4] .ret) .skip))) (.reg none [jm 15 5,jb 16 .add .i 15 (ki 1),jm 5 16] [0,1,5]))))) (js [jm 4 kt] [4] .ret)))
def rv95:List RV:=[.t 4]
def e9 (g:G) (t:TE) (a1:List Trip):List Trip→Int→Option (LR Bool Unit)
 |[],v1=>
  some (LR.out ())
 |z1::ls1,v1=>
  gt a1 (g.nat v1) fun x1=>
  lP (mG g t z1 x1) fun x2=>
  br x2
  (
   e9 g t a1 ls1 (g.wrap .i64 (g.add v1 1)))
  (
   some (LR.ret false))
def mS (g:G) (t:TE) (a0:List Trip) (a1:List Trip):Option Bool:=
 br (g.eq (g.llen (t.r_Trip a0)) (g.llen (t.r_Trip a1)))
 (
  cl (e9 g t a1 a0 0) fun o1=>lr o1 fun y1=>
  some true)
 (
  some false)
theorem yq {g:G} {t:TE} {a0:List Trip} {a1:List Trip} {r:Bool} (hg:g=G.real) (ht:t=TE.real) (h:mS g t a0 a1=some r):Fn Tryz.prog 95 [.c (.s 2 (t.r_Trip a0)),.c (.s 2 (t.r_Trip a1))] (.c (.r (.v (.bool r)))):=by
 obtain⟨X,hX⟩:=aH (.c (.r (.v (.bool r))):X);rw[←hX];refine aw (rvs:=rv95) (j:=ir95) Tryz.func95 rfl (by kernel_rfl) (nb rfl) (by kernel_rfl) af ?_;intro g2 F hg2 hF;obtain rfl:g2=g:=hg2.unique.trans hg.symm;clear hg2;obtain⟨wrap,lt,_,eq,_,_,_,_,_,_,_,_,_,add,_,_,_,_,_,_,_,llen⟩:=g2;obtain⟨_,_,_,_,_,_,_,_,r_Trip⟩:=t
 unfold mS at h;try dsimp only at h
 cbv
 cases hb1:(eq (llen (r_Trip a0)) (llen (r_Trip a1)))
 ·rw[aa hb1] at h;cbv;obtain rfl:=Option.some.inj h;exact ARet.mk trivial hX.symm
 rw[ab hb1] at h;cbv;obtain⟨o1,ho1,h⟩:=ac h;try dsimp only at h
 try rw[hg] at ho1
 try rw[ht] at ho1
 refine ABL.mk {p:Nat×Int//p.1≤a0.length∧p.2=((p.1:Nat):Int)∧e9 G.real TE.real a1 (List.drop p.1 a0) p.2=some o1} (fun⟨⟨k1,v1⟩,_⟩=>({sl:=[(0,.c (.r (.s 2 (r_Trip a0)))),(1,.c (.r (.s 2 (r_Trip a1)))),(5,.c (.r (.v (.int .i64 v1))))],tab:=[]}:St)) 0 (fun p=>a0.length-p.1.1) ⟨(0,0),Nat.zero_le _,rfl,ho1⟩ (Unit) (fun _=>({sl:=[],tab:=[]}:St)) 0 (fun y=>o1=LR.out y) ?_ ?_ ?_
 ·refine Wk.of [] rfl rfl ?_ ?_
  ·cbv;all_goals exact⟨⟨_,rfl,rfl⟩,⟨_,rfl,rfl⟩,⟨_,rfl,rfl⟩,trivial⟩
  cbv;all_goals exact trivial
 ·rintro⟨⟨k1,v1⟩,hk1,hi1,h_1⟩ hq1;have hm1:=(hq1.1 0 _ _ rfl);try dsimp only at hk1 hi1 h_1
  clear hq1;cbv
  by_cases hc1_:k1<a0.length
  ·have hb2:lt v1 (llen (r_Trip a0))=true:=pd hg ht hi1 hc1_;have hs1:=tX hg ht hi1 hc1_ hm1;obtain⟨z1,hz1⟩:=aL hc1_;rw[aD hz1] at h_1;rw[e9] at h_1;obtain⟨z1_Leg,z1_Day⟩:=z1;try rw[←hg] at h_1
   try rw[←ht] at h_1
   try dsimp only at h_1
   rw[hb2];cbv;refine AStep.mk (eO hi1) ?_;cbv;refine AGet.mk _ (nS hg ht hi1 hz1) ?_;cbv;refine AStep.mk (eO hi1) ?_;cbv;obtain⟨x1,hx1,h_1⟩:=aE h_1;obtain⟨x1_Leg,x1_Day⟩:=x1;try dsimp only at h_1
   refine AGet.mk _ (te hg ht hx1) ?_;cbv;obtain⟨x2,hx2,h_1⟩:=ak h_1;try dsimp only at h_1
   refine ACall.mk _ _ rfl (hF _ _ _ (ui hg ht hx2)) (.inl rfl) (nb rfl) ?_;cbv
   cases hb3:x2
   ·rw[aa hb3] at h_1;cbv;obtain rfl:=Option.some.inj h_1;try dsimp only[lr,lrL,lrp,aR] at h
    obtain rfl:=Option.some.inj h;exact ARet.mk trivial hX.symm
   rw[ab hb3] at h_1;cbv;try rw[hg] at h_1
   try rw[ht] at h_1
   refine⟨⟨(k1+1,(wrap .i64 (add v1 1))),hc1_,hs1,h_1⟩,Wk.of [] rfl rfl ?_ ?_,a8 hc1_⟩
   ·cbv;all_goals exact⟨⟨_,rfl,rfl⟩,⟨_,rfl,rfl⟩,⟨_,rfl,rfl⟩,trivial⟩
   cbv;all_goals exact trivial
  have hb2:lt v1 (llen (r_Trip a0))=false:=nT hg ht hi1 hc1_;rw[List.drop_of_length_le (Nat.le_of_not_lt hc1_)] at h_1;rw[e9] at h_1;try rw[←hg] at h_1
  try rw[←ht] at h_1
  try dsimp only at h_1
  rw[hb2];cbv;refine⟨(),Wk.of [] rfl rfl ?_ ?_,(Option.some.inj h_1).symm⟩
  ·cbv;all_goals exact trivial
  cbv;all_goals exact trivial
 rintro _ hy1;replace hy1:=hy1.symm;subst hy1;try dsimp only[lr,lrL,lrp,aR] at h
 cbv;obtain rfl:=Option.some.inj h;exact ARet.mk trivial hX.symm
def ir49:J:=js [jq 2 (.box 0),jq 3 (.box 1),jm 4 kf] [2,3] (.seq (js [jf 5 0 2,jk 6 5,jf 7 0 3,jk 8 7,jc 9 56 [6,8],jq 10 (.not 9)] [2,3,10] (.cond 10 (js [jm 4 kf] [4] .ret) .skip)) (.seq (js [jf 11 1 2,jk 12 11,jf 13 1 3,jk 14 13,jc 15 95 [12,14],jq 16 (.not 15)] [16] (.cond 16 (js [jm 4 kf] [4] .ret) .skip)) (js [jm 4 kt] [4] .ret)))
def rv49:List RV:=[.t 4]
def iN (g:G) (t:TE) (a0:Belief) (a1:Belief):Option Bool:=
 cl (fP g t a0.Places a1.Places) fun x1=>
 br x1
 (
  cl (mS g t a0.Rides a1.Rides) fun x2=>
  br x2
  (
   some true)
  (
   some false))
 (
  some false)
theorem m9 {g:G} {t:TE} {a0:Belief} {a1:Belief} {r:Bool} (hg:g=G.real) (ht:t=TE.real) (h:iN g t a0 a1=some r):Fn Tryz.prog 49 [.g (Belief.rs t a0),.g (Belief.rs t a1)] (.c (.r (.v (.bool r)))):=by
 obtain⟨X,hX⟩:=aH (.c (.r (.v (.bool r))):X);rw[←hX];refine aw (rvs:=rv49) (j:=ir49) Tryz.func49 rfl (by kernel_rfl) (nb rfl) (by kernel_rfl) af ?_;intro g2 F hg2 hF;obtain rfl:g2=g:=hg2.unique.trans hg.symm;clear hg2;obtain⟨_⟩:=g2;obtain⟨_⟩:=t
 obtain⟨a0_Places,a0_Rides⟩:=a0;obtain⟨a1_Places,a1_Rides⟩:=a1;unfold iN at h;try dsimp only at h
 cbv;obtain⟨x1,hx1,h⟩:=ac h;try dsimp only at h
 refine ACall.mk _ _ rfl (hF _ _ _ (kb hg ht hx1)) (.inl rfl) (nb rfl) ?_;cbv
 cases hb1:x1
 ·rw[aa hb1] at h;cbv;obtain rfl:=Option.some.inj h;exact ARet.mk trivial hX.symm
 rw[ab hb1] at h;cbv;obtain⟨x2,hx2,h⟩:=ac h;try dsimp only at h
 refine ACall.mk _ _ rfl (hF _ _ _ (yq hg ht hx2)) (.inl rfl) (nb rfl) ?_;cbv
 cases hb2:x2
 rotate_left
 ·rw[ab hb2] at h;cbv;obtain rfl:=Option.some.inj h;exact ARet.mk trivial hX.symm
 rw[aa hb2] at h;cbv;obtain rfl:=Option.some.inj h;exact ARet.mk trivial hX.symm
def IL (s_k0:ByteArray):J:=js [jq 2 (.box 0),jq 3 (.box 1),jq 4 (.mv (.k (.c (.r (.v (.string s_k0))))))] [2,3] (.seq (js [jl 5 3 2,jl 6 6 3,jc 7 67 [5,6],jq 8 (.not 7)] [2,3,8] (.cond 8 (js [jq 4 (.mv (.k (.c (.r (.v (.string s_k0))))))] [4] .ret) .skip)) (.seq (js [jf 9 2 3,jk 10 9] [2,3,10] (.block 0 (js [jb 12 .eql .i 10 (ki 3),jm 11 12] [2,3,10,11] (.cond 11 (js [jf 13 0 2,jk 14 13,jf 15 4 3,jf 16 0 15,jk 17 16,ja 18 6 14 17,jf 19 0 18,jk 20 19,jm 4 20] [4] .ret) (js [jb 22 .eql .i 10 (ki 2),jm 21 22] [2,3,21] (.cond 21 (js [jf 23 0 2,jk 24 23,jf 25 4 3,jf 26 0 25,jk 27 26,ja 28 6 24 27,jf 29 1 28,jk 30 29,jm 4 30] [4] .ret) .skip)))))) (js [jf 31 3 3,jk 32 31,jm 4 32] [4] .ret)))
def IT:List RV:=[.t 4]
def mB (g:G) (t:TE) (a0:Network) (a1:Scan):Option ByteArray:=
 cl (iA g t a0 (Scan.mk a1.Thing a1.At a1.Kind a1.Place (Trip.mk a1.Trip.Leg a1.Trip.Day))) fun x1=>
 br x1
 (
  br (g.eq a1.Kind 3)
  (
   gd (((0:Int)≤a1.Trip.Leg))<|
   gt a0.Legs (g.nat a1.Trip.Leg) fun x2=>
   some x2.From)
  (
   br (g.eq a1.Kind 2)
   (
    gd (((0:Int)≤a1.Trip.Leg))<|
    gt a0.Legs (g.nat a1.Trip.Leg) fun x3=>
    some x3.To)
   (
    some a1.Place)))
 (
  some str_k0)
theorem yM {g:G} {t:TE} {a0:Network} {a1:Scan} {r:ByteArray} (hg:g=G.real) (ht:t=TE.real) (h:mB g t a0 a1=some r):Fn Tryz.prog 121 [.g (Network.rs t a0),.g (Scan.rs t a1)] (.c (.r (.v (.string r)))):=by
 obtain⟨X,hX⟩:=aH (.c (.r (.v (.string r))):X);rw[←hX];refine aw (rvs:=IT) (j:=(IL str_k0)) Tryz.func121 rfl (by kernel_rfl) (nb rfl) (by kernel_rfl) af ?_;intro g2 F hg2 hF;obtain rfl:g2=g:=hg2.unique.trans hg.symm;clear hg2;obtain⟨_,_,_,eq⟩:=g2;obtain⟨_⟩:=t
 obtain⟨a0_Legs,a0_Off,a0_Change⟩:=a0;obtain⟨a1_Thing,a1_At,a1_Kind,a1_Place,⟨a1_Trip_Leg,a1_Trip_Day⟩⟩:=a1;unfold mB at h;try dsimp only at h
 obtain⟨s_k0,hs_k0⟩:∃s,str_k0=s:=⟨_,rfl⟩;try rw[hs_k0] at h
 rw[hs_k0];cbv;obtain⟨x1,hx1,h⟩:=ac h;try dsimp only at h
 refine ACall.mk _ _ rfl (hF _ _ _ (jJ hg ht hx1)) (.inl rfl) (nb rfl) ?_;cbv
 cases hb1:x1
 ·rw[aa hb1] at h;cbv;obtain rfl:=Option.some.inj h;exact ARet.mk trivial hX.symm
 rw[ab hb1] at h;cbv
 cases hb2:(eq a1_Kind 3)
 rotate_left
 ·rw[ab hb2] at h;cbv;obtain⟨hc1,h⟩:=al h;refine AStep.mk hc1 ?_;cbv;obtain⟨x2,hx2,h⟩:=aE h;obtain⟨x2_From,x2_To,x2_Start,x2_Takes,x2_Days,x2_Room⟩:=x2;try dsimp only at h
  refine AGet.mk _ (aF hg ht hx2) ?_;cbv;obtain rfl:=Option.some.inj h;exact ARet.mk trivial hX.symm
 rw[aa hb2] at h;cbv
 cases hb3:(eq a1_Kind 2)
 ·rw[aa hb3] at h;cbv;obtain rfl:=Option.some.inj h;exact ARet.mk trivial hX.symm
 rw[ab hb3] at h;cbv;obtain⟨hc2,h⟩:=al h;refine AStep.mk hc2 ?_;cbv;obtain⟨x3,hx3,h⟩:=aE h;obtain⟨x3_From,x3_To,x3_Start,x3_Takes,x3_Days,x3_Room⟩:=x3;try dsimp only at h
 refine AGet.mk _ (aF hg ht hx3) ?_;cbv;obtain rfl:=Option.some.inj h;exact ARet.mk trivial hX.symm
def Jm (s_k0:ByteArray):J:=js [jq 2 (.box 0),jq 3 (.box 1),jq 4 (.mv (.k (.c (.r (.v (.string s_k0))))))] [2,3] (.seq (.block 0 (js [jl 6 3 2,jl 7 6 3,jc 8 62 [6,7],jq 9 (.not 8),jm 5 9] [2,3,5] (.cond 5 (js [jq 4 (.mv (.k (.c (.r (.v (.string s_k0))))))] [4] .ret) (js [jf 11 2 3,jk 12 11,jb 13 .eql .i 12 (ki 3),jm 10 13] [2,3,10] (.cond 10 (js [jf 14 0 2,jk 15 14,jf 16 4 3,jf 17 0 16,jk 18 17,ja 19 6 15 18,jf 20 0 19,jk 21 20,jm 4 21] [4] .ret) (js [jf 23 2 3,jk 24 23,jb 25 .eql .i 24 (ki 2),jm 22 25] [2,3,22] (.cond 22 (js [jf 26 0 2,jk 27 26,jf 28 4 3,jf 29 0 28,jk 30 29,ja 31 6 27 30,jf 32 1 31,jk 33 32,jm 4 33] [4] .ret) .skip))))))) (js [jf 34 3 3,jk 35 34,jm 4 35] [4] .ret))
def Io:List RV:=[.t 4]
def mL (g:G) (t:TE) (a0:Network) (a1:Scan):Option ByteArray:=
 cl (iy g t a0 (Scan.mk a1.Thing a1.At a1.Kind a1.Place (Trip.mk a1.Trip.Leg a1.Trip.Day))) fun x1=>
 br x1
 (
  br (g.eq a1.Kind 3)
  (
   gd (((0:Int)≤a1.Trip.Leg))<|
   gt a0.Legs (g.nat a1.Trip.Leg) fun x2=>
   some x2.From)
  (
   br (g.eq a1.Kind 2)
   (
    gd (((0:Int)≤a1.Trip.Leg))<|
    gt a0.Legs (g.nat a1.Trip.Leg) fun x3=>
    some x3.To)
   (
    some a1.Place)))
 (
  some str_k0)
theorem yL {g:G} {t:TE} {a0:Network} {a1:Scan} {r:ByteArray} (hg:g=G.real) (ht:t=TE.real) (h:mL g t a0 a1=some r):Fn Tryz.prog 119 [.g (Network.rs t a0),.g (Scan.rs t a1)] (.c (.r (.v (.string r)))):=by
 obtain⟨X,hX⟩:=aH (.c (.r (.v (.string r))):X);rw[←hX];refine aw (rvs:=Io) (j:=(Jm str_k0)) Tryz.func119 rfl (by kernel_rfl) (nb rfl) (by kernel_rfl) af ?_;intro g2 F hg2 hF;obtain rfl:g2=g:=hg2.unique.trans hg.symm;clear hg2;obtain⟨_,_,_,eq⟩:=g2;obtain⟨_⟩:=t
 obtain⟨a0_Legs,a0_Off,a0_Change⟩:=a0;obtain⟨a1_Thing,a1_At,a1_Kind,a1_Place,⟨a1_Trip_Leg,a1_Trip_Day⟩⟩:=a1;unfold mL at h;try dsimp only at h
 obtain⟨s_k0,hs_k0⟩:∃s,str_k0=s:=⟨_,rfl⟩;try rw[hs_k0] at h
 rw[hs_k0];cbv;obtain⟨x1,hx1,h⟩:=ac h;try dsimp only at h
 refine ACall.mk _ _ rfl (hF _ _ _ (ka hg ht hx1)) (.inl rfl) (nb rfl) ?_;cbv
 cases hb1:x1
 ·rw[aa hb1] at h;cbv;obtain rfl:=Option.some.inj h;exact ARet.mk trivial hX.symm
 rw[ab hb1] at h;cbv
 cases hb2:(eq a1_Kind 3)
 rotate_left
 ·rw[ab hb2] at h;cbv;obtain⟨hc1,h⟩:=al h;refine AStep.mk hc1 ?_;cbv;obtain⟨x2,hx2,h⟩:=aE h;obtain⟨x2_From,x2_To,x2_Start,x2_Takes,x2_Days,x2_Room⟩:=x2;try dsimp only at h
  refine AGet.mk _ (aF hg ht hx2) ?_;cbv;obtain rfl:=Option.some.inj h;exact ARet.mk trivial hX.symm
 rw[aa hb2] at h;cbv
 cases hb3:(eq a1_Kind 2)
 ·rw[aa hb3] at h;cbv;obtain rfl:=Option.some.inj h;exact ARet.mk trivial hX.symm
 rw[ab hb3] at h;cbv;obtain⟨hc2,h⟩:=al h;refine AStep.mk hc2 ?_;cbv;obtain⟨x3,hx3,h⟩:=aE h;obtain⟨x3_From,x3_To,x3_Start,x3_Takes,x3_Days,x3_Room⟩:=x3;try dsimp only at h
 refine AGet.mk _ (aF hg ht hx3) ?_;cbv;obtain rfl:=Option.some.inj h;exact ARet.mk trivial hX.symm
end Go.Vs
