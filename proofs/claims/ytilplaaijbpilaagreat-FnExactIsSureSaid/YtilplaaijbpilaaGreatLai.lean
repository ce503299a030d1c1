/- Part of the proofs of this seat's laws: Lai. No condition. -/
import Derived.Test.YtilplaaijbpilaaGreatTy
import Derived.Test.YtilplaaijbpilaaGreatTIRall
import Derived.Test.YtilplaaijbpilaaGreatLah
import Derived.Test.YtilplaaijbpilaaGreatLaa
import Derived.Test.YtilplaaijbpilaaGreatLab
set_option linter.unusedVariables false
set_option linter.unusedSimpArgs false
set_option linter.unusedSectionVars false
namespace Go.Vs
set_option maxRecDepth 100000
def ir47:J:=js [jq 4 (.box 0),jq 8 (.alloc [.n 1,.n 2])] [1,2,3,4,8] (js [jq 15 (.bld [.n 1,.n 2] []),jq 9 (.alloc [.n 1,.n 2]),jp (.st 2 9 15)] [1,2,3,4,8,9] (js [jl 16 3 4,jc 17 78 [16],jm 10 17] [1,2,3,4,8,9,10] (.seq (js [jm 11 (ki 0)] [1,2,3,4,8,9,10,11] (.bl 0 (.seq (js [jm 18 11,jm 19 10,jq 20 (.len false 19),jb 21 .lss .i 18 20] [1,2,3,4,8,9,10,11,21] (.cond 21 .skip (.exit 0))) (.seq (.block 1 (.seq (.reg (some [[],[],[],[],[],[],[4,5],[4,5,6],[0,1,2,3,4,5,6,7]]) [jl 24 3 4,jm 25 1,jm 26 2,jm 27 3,jm 28 10,jm 29 11,ja 30 1 28 29,jk 31 30,jc 32 42 [24,25,26,27,31]] [1,2,3,4,8,9,10,11,32]) (.cond 32 (.reg (some [[],[0],[],[],[2,3],[2,3,4],[2,3,4,5],[0,1,2,3,4,5,6],[0,1,2,3,4,5,6,7],[0,1,2,3,4,5,6,7,8]]) [jf 33 0 9,jk 34 33,jm 35 10,jm 36 11,ja 37 1 35 36,jk 38 37,jq 39 (.bsl 1 [38]),jq 40 (.app 1 16 true 34 39),jf 41 0 9,jp (.st 1 41 40)] [1,2,3,4,8,9,10,11]) .skip))) (.reg none [jm 22 11,jb 23 .add .i 22 (ki 1),jm 11 23] [1,2,3,4,8,9,10,11]))))) (.seq (js [jm 12 (ki 0)] [1,2,3,4,8,9,12] (.bl 2 (.seq (js [jm 42 12,jb 43 .leq .i 42 (ki 60),jm 44 43,ju 45 44 (.fa 1 9),ju 46 44 (.ld false 1 45),ju 47 44 (.len false 46),ju 48 44 (.bin .lss .i 47 (ki 60)),jq 49 (.pick 44 48 kf)] [1,2,3,4,8,9,12,49] (.cond 49 .skip (.exit 2))) (.seq (.block 3 (js [jm 13 (ki 0)] [1,2,3,4,8,9,12,13] (.bl 4 (.seq (js [jm 52 13,jf 53 0 4,jk 54 53,jq 55 (.len false 54),jb 56 .lss .i 52 55,jm 57 56,ju 58 57 (.fa 1 9),ju 59 57 (.ld false 1 58),ju 60 57 (.len false 59),ju 61 57 (.bin .lss .i 60 (ki 60)),jq 62 (.pick 57 61 kf)] [1,2,3,4,8,9,12,13,62] (.cond 62 .skip (.exit 4))) (.seq (.block 5 (js [jm 65 13,jm 66 12,jq 67 (.bld [.r (.v (.int .i64 0)),.r (.v (.int .i64 0))] [(0,1,65),(1,1,66)]),jq 14 (.alloc [.r (.v (.int .i64 0)),.r (.v (.int .i64 0))]),jp (.st 2 14 67)] [1,2,3,4,8,9,12,13,14] (js [jl 68 3 4,jm 69 1,jm 70 2,jm 71 3,jl 72 2 14,jc 73 44 [68,69,70,71,72]] [1,2,3,4,8,9,12,13,14,73] (.cond 73 (.reg none [jf 74 1 9,jk 75 74,jl 76 2 14,jq 77 (.bsl 2 [76]),jq 78 (.app 2 16 true 75 77),jf 79 1 9,jp (.st 1 79 78)] [1,2,3,4,8,9,12,13]) .skip)))) (.reg none [jm 63 13,jb 64 .add .i 63 (ki 1),jm 13 64] [1,2,3,4,8,9,12,13])))))) (.reg none [jm 50 12,jb 51 .add .i 50 (ki 1),jm 12 51] [1,2,3,4,8,9,12]))))) (js [jl 80 2 9,jp (.st 2 8 80)] [8] .ret)))))
def rv47:List RV:=[.c 8 true 2]
open Go.Proofs Go.IntWalk
set_option linter.unusedVariables false
set_option maxHeartbeats 4000000
def dA (g:G) (t:TE) (a0:Network) (a1:List Scan) (a2:Int) (a3:Int) (v2:Int):List Leg→Int→List Trip→Option (List Trip)
 |[],v3,w3=>
  some w3
 |z3::ls3,v3,w3=>
  br (g.lt (g.int (g.dlen (t.d_Trip w3))) 60)
  (
   cl (ln g t a0 a1 a2 a3 (Trip.mk v3 v2)) fun x4=>
   br x4
   (
    lP ([(Trip.mk v3 v2)]) fun(l3:List Trip)=>
    gd (((w3.length+l3.length)*16≤70368744177664))<|
    lP (w3++l3) fun(l4:List Trip)=>
    dA g t a0 a1 a2 a3 v2 ls3 (g.wrap .i64 (g.add v3 1)) l4)
   (
    dA g t a0 a1 a2 a3 v2 ls3 (g.wrap .i64 (g.add v3 1)) w3))
  (
   some w3)
def ek (g:G) (t:TE) (a0:Network) (a1:List Scan) (a2:Int) (a3:Int):Nat→Int→List Trip→Option (List Trip)
 |0,v2,w2=>
  some w2
 |n2+1,v2,w2=>
  br (g.lt (g.int (g.dlen (t.d_Trip w2))) 60)
  (
   cl (dA g t a0 a1 a2 a3 v2 a0.Legs 0 w2) fun y2=>
   ek g t a0 a1 a2 a3 n2 (g.wrap .i64 (g.add v2 1)) y2)
  (
   some w2)
def dC (g:G) (t:TE) (a0:Network) (a1:List Scan) (a2:Int) (a3:Int) (x1:List ByteArray):Nat→Int→List ByteArray→Option (List ByteArray)
 |0,v1,w1=>
  some w1
 |n1+1,v1,w1=>
  gt x1 (g.nat v1) fun x2=>
  cl (jh g t a0 a1 a2 a3 x2) fun x3=>
  br x3
  (
   lP ([x2]) fun(l1:List ByteArray)=>
   gd (((w1.length+l1.length)*16≤70368744177664))<|
   lP (w1++l1) fun(l2:List ByteArray)=>
   dC g t a0 a1 a2 a3 x1 n1 (g.wrap .i64 (g.add v1 1)) l2)
  (
   dC g t a0 a1 a2 a3 x1 n1 (g.wrap .i64 (g.add v1 1)) w1)
def jV (g:G) (t:TE) (a0:Network) (a1:List Scan) (a2:Int) (a3:Int):Option Belief:=
 cl (dU g t a0) fun x1=>
 gd (((g.int (g.dlen (t.d_S x1)))≤9223372036854775807))<|
 cl (dC g t a0 a1 a2 a3 x1 (ay 0 (g.int (g.dlen (t.d_S x1)))) 0 []) fun y1=>
 cl (ek g t a0 a1 a2 a3 (gp 0 60) 0 []) fun y3=>
 some (Belief.mk y1 y3)
theorem qP {g:G} {t:TE} {a0:Network} {a1:List Scan} {a2:Int} {a3:Int} {r:Belief} (hg:g=G.real) (ht:t=TE.real) (h:jV g t a0 a1 a2 a3=some r):Fn Tryz.prog 47 [.g (Network.rs t a0),.c (.s 6 (t.r_Scan a1)),.c (.v (.int .i64 a2)),.c (.v (.int .i64 a3))] (.g (Belief.ds t r)):=by
 obtain⟨X,hX⟩:=aH (.g (Belief.ds t r):X);rw[←hX];refine aw (rvs:=rv47) (j:=ir47) Tryz.func47 rfl (by kernel_rfl) (nb rfl) (by kernel_rfl) af ?_;intro g2 F hg2 hF;obtain rfl:g2=g:=hg2.unique.trans hg.symm;clear hg2;obtain⟨wrap,lt,le,_,_,_,_,_,_,_,_,_,int,add,_,_,_,_,_,_,_,llen,_,_,dlen⟩:=g2;obtain⟨r_Leg,_,r_I64,_,r_Scan,_,_,d_S,_,d_Trip⟩:=t
 obtain⟨a0_Legs,a0_Off,a0_Change⟩:=a0;have hnil_S:d_S []=[]:=Bk ht;have hnil_Trip:d_Trip []=[]:=uq ht;unfold jV at h;try dsimp only at h
 cbv;obtain⟨x1,hx1,h⟩:=ac h;try dsimp only at h
 refine ACall.mk _ _ rfl (hF _ _ _ (fg hg ht hx1)) (.inl rfl) (nb rfl) ?_;cbv;obtain⟨hB1,h⟩:=al h;obtain⟨o1,ho1,h⟩:=ac h;try dsimp only at h
 try rw[hg] at ho1
 try rw[ht] at ho1
 refine ABL.mk {p:Nat×Int×List ByteArray//p.1=ay p.2.1 (int (dlen (d_S x1)))∧0≤p.2.1∧dC G.real TE.real (Network.mk a0_Legs a0_Off a0_Change) a1 a2 a3 x1 p.1 p.2.1 p.2.2=some o1} (fun⟨⟨n1,v1,w1⟩,_⟩=>({sl:=[(1,.c (.r (.s 6 (r_Scan a1)))),(2,.c (.r (.v (.int .i64 a2)))),(3,.c (.r (.v (.int .i64 a3)))),(4,.c (.p 0 3 0 0)),(8,.c (.p 1 2 0 0)),(9,.c (.p 2 2 0 0)),(10,.c (.f 4 1 0 (dlen (d_S x1)))),(11,.c (.r (.v (.int .i64 v1))))],tab:=[(0,some (.foc 3 [] [.r (.s 6 (r_Leg a0_Legs)),.r (.s 1 (r_I64 a0_Off)),.r (.v (.int .i64 a0_Change))] [])),(1,some (.foc 2 [] [.n 1,.n 2] [])),(2,some (.foc 2 [] [.f 3 1 0 (dlen (d_S w1)),.n 2] [])),(3,some (.arr 1 (d_S w1))),(4,some (.arr 1 (d_S x1)))]}:St)) 5 (fun p=>p.1.1) ⟨(ay 0 (int (dlen (d_S x1))),0,[]),rfl,Int.le_refl _,ho1⟩ (List ByteArray) (fun y1=>({sl:=[(1,.c (.r (.s 6 (r_Scan a1)))),(2,.c (.r (.v (.int .i64 a2)))),(3,.c (.r (.v (.int .i64 a3)))),(4,.c (.p 0 3 0 0)),(8,.c (.p 1 2 0 0)),(9,.c (.p 2 2 0 0))],tab:=[(0,some (.foc 3 [] [.r (.s 6 (r_Leg a0_Legs)),.r (.s 1 (r_I64 a0_Off)),.r (.v (.int .i64 a0_Change))] [])),(1,some (.foc 2 [] [.n 1,.n 2] [])),(2,some (.foc 2 [] [.f 3 1 0 (dlen (d_S y1)),.n 2] [])),(3,some (.arr 1 (d_S y1)))]}:St)) 4 (fun y=>o1=y) ?_ ?_ ?_
 ·refine Wk.of [(0,some 0),(1,some 16),(2,some 48),(3,none),(4,some 96)] rfl rfl ?_ ?_
  ·cbv;all_goals try rw[show dlen (d_S [])=0 from nE hg ht]
   all_goals try rw[hnil_S]
   all_goals exact⟨⟨_,rfl,rfl⟩,⟨_,rfl,rfl⟩,⟨_,rfl,rfl⟩,⟨_,rfl,rfl⟩,⟨_,rfl,rfl⟩,⟨_,rfl,rfl⟩,⟨_,rfl,rfl⟩,⟨_,rfl,rfl⟩,trivial⟩
  cbv;all_goals try rw[show dlen (d_S [])=0 from nE hg ht]
  all_goals try rw[hnil_S]
  all_goals exact⟨⟨_,rfl,_,rfl,rfl,rfl,rfl,trivial⟩,⟨_,rfl,_,rfl,rfl,rfl,trivial⟩,⟨_,rfl,_,rfl,⟨⟨_,rfl⟩,rfl,rfl⟩,rfl,trivial⟩,⟨_,rfl⟩,⟨_,rfl,rfl⟩,trivial⟩
 ·rintro⟨⟨n1,v1,w1⟩,hn1,hi1,h_1⟩ hq1;try dsimp only at hn1 hi1 h_1
  clear hq1;cbv;rcases n1 with _|n1
  ·have hb1:lt v1 (int (dlen (d_S x1)))=false:=bu hg hn1;rw[dC] at h_1;try rw[←hg] at h_1
   try rw[←ht] at h_1
   try dsimp only at h_1
   rw[hb1];cbv;refine⟨w1,Wk.of [(0,some 0),(1,some 1),(2,some 2),(3,some 3)] rfl rfl ?_ ?_,(Option.some.inj h_1).symm⟩
   ·cbv;all_goals exact⟨⟨_,rfl,rfl⟩,⟨_,rfl,rfl⟩,⟨_,rfl,rfl⟩,⟨_,rfl,rfl⟩,⟨_,rfl,rfl⟩,⟨_,rfl,rfl⟩,trivial⟩
   cbv;all_goals exact⟨⟨_,rfl,_,rfl,rfl,rfl,rfl,trivial⟩,⟨_,rfl,_,rfl,rfl,rfl,trivial⟩,⟨_,rfl,_,rfl,rfl,rfl,trivial⟩,⟨_,rfl,rfl⟩,trivial⟩
  have hb1:lt v1 (int (dlen (d_S x1)))=true:=bF hg hn1;have hl1:=d8 hn1;have hs1:=cM hg hn1 hi1 hB1 (by decide);rw[dC] at h_1;try rw[←hg] at h_1
  try rw[←ht] at h_1
  try dsimp only at h_1
  rw[hb1];cbv;refine AStep.mk (dR hg hi1 hl1) ?_;cbv;obtain⟨x2,hx2,h_1⟩:=aE h_1;try dsimp only at h_1
  refine AGet.mk _ (g9 hg ht hx2) ?_;cbv;obtain⟨x3,hx3,h_1⟩:=ac h_1;try dsimp only at h_1
  refine ACall.mk _ _ rfl (hF _ _ _ (lT hg ht hx3)) (.inl rfl) (nb rfl) ?_;cbv
  cases hb2:x3
  ·rw[aa hb2] at h_1;cbv;try rw[hg] at h_1
   try rw[ht] at h_1
   refine⟨⟨(n1,(wrap .i64 (add v1 1)),w1),hs1.1,hs1.2,h_1⟩,Wk.of [(0,some 0),(1,some 1),(2,some 2),(3,some 3),(4,some 4)] rfl rfl ?_ ?_,Nat.lt_succ_self _⟩
   ·cbv;all_goals exact⟨⟨_,rfl,rfl⟩,⟨_,rfl,rfl⟩,⟨_,rfl,rfl⟩,⟨_,rfl,rfl⟩,⟨_,rfl,rfl⟩,⟨_,rfl,rfl⟩,⟨_,rfl,rfl⟩,⟨_,rfl,rfl⟩,trivial⟩
   cbv;all_goals exact⟨⟨_,rfl,_,rfl,rfl,rfl,rfl,trivial⟩,⟨_,rfl,_,rfl,rfl,rfl,trivial⟩,⟨_,rfl,_,rfl,rfl,rfl,trivial⟩,⟨_,rfl,rfl⟩,⟨_,rfl,rfl⟩,trivial⟩
  rw[ab hb2] at h_1;cbv;refine AStep.mk (dR hg hi1 hl1) ?_;cbv;refine AGet.mk _ (g9 hg ht hx2) ?_;cbv;obtain⟨l1,hl1,h_1⟩:=ak h_1;try dsimp only at h_1
  refine ANew.mk (d_S l1) (dlen (d_S l1)) (by rw[←hl1];exact jG hg ht [x2]) (by rw[←hl1];exact gD hg ht [x2]) ?_;cbv;obtain⟨hc1,h_1⟩:=al h_1;refine AStep.mk ⟨⟨rfl,(aq hg ht _)⟩,(dF hg ht (aq hg ht _) rfl hc1)⟩ ?_;cbv;obtain⟨l2,hl2,h_1⟩:=ak h_1;try dsimp only at h_1
  refine ANew.mk (d_S l2) (dlen (d_S l2)) (by rw[←hl2];exact kr hg ht (aq hg ht _) rfl) (by rw[←hl2];exact gY hg ht (aq hg ht _) rfl) ?_;cbv;try rw[hg] at h_1
  try rw[ht] at h_1
  refine⟨⟨(n1,(wrap .i64 (add v1 1)),l2),hs1.1,hs1.2,h_1⟩,Wk.of [(0,some 0),(1,some 1),(2,some 2),(3,some 325),(4,some 4)] rfl rfl ?_ ?_,Nat.lt_succ_self _⟩
  ·cbv;all_goals exact⟨⟨_,rfl,rfl⟩,⟨_,rfl,rfl⟩,⟨_,rfl,rfl⟩,⟨_,rfl,rfl⟩,⟨_,rfl,rfl⟩,⟨_,rfl,rfl⟩,⟨_,rfl,rfl⟩,⟨_,rfl,rfl⟩,trivial⟩
  cbv;all_goals exact⟨⟨_,rfl,_,rfl,rfl,rfl,rfl,trivial⟩,⟨_,rfl,_,rfl,rfl,rfl,trivial⟩,⟨_,rfl,_,rfl,rfl,rfl,trivial⟩,⟨_,rfl,rfl⟩,⟨_,rfl,rfl⟩,trivial⟩
 rintro y1 hy1;replace hy1:=hy1.symm;subst hy1;try dsimp only[lr,lrL,lrp,aR] at h
 cbv;obtain⟨o2,ho2,h⟩:=ac h;try dsimp only at h
 try rw[hg] at ho2
 try rw[ht] at ho2
 refine ABL.mk {p:Nat×Int×List Trip//p.1=gp p.2.1 60∧0≤p.2.1∧ek G.real TE.real (Network.mk a0_Legs a0_Off a0_Change) a1 a2 a3 p.1 p.2.1 p.2.2=some o2} (fun⟨⟨n2,v2,w2⟩,_⟩=>({sl:=[(1,.c (.r (.s 6 (r_Scan a1)))),(2,.c (.r (.v (.int .i64 a2)))),(3,.c (.r (.v (.int .i64 a3)))),(4,.c (.p 0 3 0 0)),(8,.c (.p 1 2 0 0)),(9,.c (.p 2 2 0 0)),(12,.c (.r (.v (.int .i64 v2))))],tab:=[(0,some (.foc 3 [] [.r (.s 6 (r_Leg a0_Legs)),.r (.s 1 (r_I64 a0_Off)),.r (.v (.int .i64 a0_Change))] [])),(1,some (.foc 2 [] [.n 1,.n 2] [])),(2,some (.foc 2 [] [.f 3 1 0 (dlen (d_S y1)),.f 4 2 0 (dlen (d_Trip w2))] [])),(3,some (.arr 1 (d_S y1))),(4,some (.arr 2 (d_Trip w2)))]}:St)) 5 (fun p=>p.1.1) ⟨(gp 0 60,0,[]),rfl,Int.le_refl _,ho2⟩ (List Trip) (fun y3=>({sl:=[(8,.c (.p 0 2 0 0)),(9,.c (.p 1 2 0 0))],tab:=[(0,some (.foc 2 [] [.n 1,.n 2] [])),(1,some (.foc 2 [] [.f 2 1 0 (dlen (d_S y1)),.f 3 2 0 (dlen (d_Trip y3))] [])),(2,some (.arr 1 (d_S y1))),(3,some (.arr 2 (d_Trip y3)))]}:St)) 4 (fun y=>o2=y) ?_ ?_ ?_
 ·refine Wk.of [(0,some 0),(1,some 1),(2,some 2),(3,some 3),(4,none)] rfl rfl ?_ ?_
  ·cbv;all_goals try rw[show dlen (d_Trip [])=0 from kc hg ht]
   all_goals try rw[hnil_Trip]
   all_goals exact⟨⟨_,rfl,rfl⟩,⟨_,rfl,rfl⟩,⟨_,rfl,rfl⟩,⟨_,rfl,rfl⟩,⟨_,rfl,rfl⟩,⟨_,rfl,rfl⟩,⟨_,rfl,rfl⟩,trivial⟩
  cbv;all_goals try rw[show dlen (d_Trip [])=0 from kc hg ht]
  all_goals try rw[hnil_Trip]
  all_goals exact⟨⟨_,rfl,_,rfl,rfl,rfl,rfl,trivial⟩,⟨_,rfl,_,rfl,rfl,rfl,trivial⟩,⟨_,rfl,_,rfl,rfl,⟨⟨_,rfl⟩,rfl,rfl⟩,trivial⟩,⟨_,rfl,rfl⟩,⟨_,rfl⟩,trivial⟩
 ·rintro⟨⟨n2,v2,w2⟩,hn2,hi2,h_2⟩ hq2;try dsimp only at hn2 hi2 h_2
  clear hq2;cbv;rcases n2 with _|n2
  ·have hb3:le v2 60=false:=oK hg hn2;rw[ek] at h_2;try rw[←hg] at h_2
   try rw[←ht] at h_2
   try dsimp only at h_2
   rw[hb3];cbv;iterate 4 try(rw[hb3];cbv)
   refine⟨w2,Wk.of [(0,some 1),(1,some 2),(2,some 3),(3,some 4)] rfl rfl ?_ ?_,(Option.some.inj h_2).symm⟩
   ·cbv;all_goals exact⟨⟨_,rfl,rfl⟩,⟨_,rfl,rfl⟩,trivial⟩
   cbv;all_goals exact⟨⟨_,rfl,_,rfl,rfl,rfl,trivial⟩,⟨_,rfl,_,rfl,rfl,rfl,trivial⟩,⟨_,rfl,rfl⟩,⟨_,rfl,rfl⟩,trivial⟩
  have hb3:le v2 60=true:=qj hg hn2;have hl2:=wz hn2;have hs2:=sM hg hn2 hi2 (by decide) (by decide);rw[ek] at h_2;try rw[←hg] at h_2
  try rw[←ht] at h_2
  try dsimp only at h_2
  rw[hb3];cbv;iterate 4 try(rw[hb3];cbv)
  cases hb4:(lt (int (dlen (d_Trip w2))) 60)
  ·rw[aa hb4] at h_2;cbv;refine⟨w2,Wk.of [(0,some 1),(1,some 2),(2,some 3),(3,some 4)] rfl rfl ?_ ?_,(Option.some.inj h_2).symm⟩
   ·cbv;all_goals exact⟨⟨_,rfl,rfl⟩,⟨_,rfl,rfl⟩,trivial⟩
   cbv;all_goals exact⟨⟨_,rfl,_,rfl,rfl,rfl,trivial⟩,⟨_,rfl,_,rfl,rfl,rfl,trivial⟩,⟨_,rfl,rfl⟩,⟨_,rfl,rfl⟩,trivial⟩
  rw[ab hb4] at h_2;cbv;obtain⟨o3,ho3,h_2⟩:=ac h_2;try dsimp only at h_2
  try rw[hg] at ho3
  try rw[ht] at ho3
  refine ABL.mk {p:Nat×Int×List Trip//p.1≤a0_Legs.length∧p.2.1=((p.1:Nat):Int)∧dA G.real TE.real (Network.mk a0_Legs a0_Off a0_Change) a1 a2 a3 v2 (List.drop p.1 a0_Legs) p.2.1 p.2.2=some o3} (fun⟨⟨k3,v3,w3⟩,_⟩=>({sl:=[(1,.c (.r (.s 6 (r_Scan a1)))),(2,.c (.r (.v (.int .i64 a2)))),(3,.c (.r (.v (.int .i64 a3)))),(4,.c (.p 0 3 0 0)),(8,.c (.p 1 2 0 0)),(9,.c (.p 2 2 0 0)),(12,.c (.r (.v (.int .i64 v2)))),(13,.c (.r (.v (.int .i64 v3))))],tab:=[(0,some (.foc 3 [] [.r (.s 6 (r_Leg a0_Legs)),.r (.s 1 (r_I64 a0_Off)),.r (.v (.int .i64 a0_Change))] [])),(1,some (.foc 2 [] [.n 1,.n 2] [])),(2,some (.foc 2 [] [.f 3 1 0 (dlen (d_S y1)),.f 4 2 0 (dlen (d_Trip w3))] [])),(3,some (.arr 1 (d_S y1))),(4,some (.arr 2 (d_Trip w3)))]}:St)) 5 (fun p=>a0_Legs.length-p.1.1) ⟨(0,0,w2),Nat.zero_le _,rfl,ho3⟩ (List Trip) (fun y2=>({sl:=[(1,.c (.r (.s 6 (r_Scan a1)))),(2,.c (.r (.v (.int .i64 a2)))),(3,.c (.r (.v (.int .i64 a3)))),(4,.c (.p 0 3 0 0)),(8,.c (.p 1 2 0 0)),(9,.c (.p 2 2 0 0)),(12,.c (.r (.v (.int .i64 v2))))],tab:=[(0,some (.foc 3 [] [.r (.s 6 (r_Leg a0_Legs)),.r (.s 1 (r_I64 a0_Off)),.r (.v (.int .i64 a0_Change))] [])),(1,some (.foc 2 [] [.n 1,.n 2] [])),(2,some (.foc 2 [] [.f 3 1 0 (dlen (d_S y1)),.f 4 2 0 (dlen (d_Trip y2))] [])),(3,some (.arr 1 (d_S y1))),(4,some (.arr 2 (d_Trip y2)))]}:St)) 5 (fun y=>o3=y) ?_ ?_ ?_
  ·refine Wk.of [(0,some 0),(1,some 1),(2,some 2),(3,some 3),(4,some 4)] rfl rfl ?_ ?_
   ·cbv;all_goals exact⟨⟨_,rfl,rfl⟩,⟨_,rfl,rfl⟩,⟨_,rfl,rfl⟩,⟨_,rfl,rfl⟩,⟨_,rfl,rfl⟩,⟨_,rfl,rfl⟩,⟨_,rfl,rfl⟩,⟨_,rfl,rfl⟩,trivial⟩
   cbv;all_goals exact⟨⟨_,rfl,_,rfl,rfl,rfl,rfl,trivial⟩,⟨_,rfl,_,rfl,rfl,rfl,trivial⟩,⟨_,rfl,_,rfl,rfl,rfl,trivial⟩,⟨_,rfl,rfl⟩,⟨_,rfl,rfl⟩,trivial⟩
  ·rintro⟨⟨k3,v3,w3⟩,hk3,hi3,h_3⟩ hq3;have hm3:=(hq3.2.2.1 0 _ _ _ _ 0 _ _ rfl rfl);try dsimp only at hk3 hi3 h_3
   clear hq3;cbv
   by_cases hc3_:k3<a0_Legs.length
   ·have hb5:lt v3 (llen (r_Leg a0_Legs))=true:=dw hg ht hi3 hc3_;have hs3:=gw hg ht hi3 hc3_ hm3;obtain⟨z3,hz3⟩:=aL hc3_;rw[aD hz3] at h_3;rw[dA] at h_3;obtain⟨z3_From,z3_To,z3_Start,z3_Takes,z3_Days,z3_Room⟩:=z3;try rw[←hg] at h_3
    try rw[←ht] at h_3
    try dsimp only at h_3
    rw[hb5];cbv;iterate 4 try(rw[hb5];cbv)
    cases hb6:(lt (int (dlen (d_Trip w3))) 60)
    ·rw[aa hb6] at h_3;cbv;refine⟨w3,Wk.of [(0,some 0),(1,some 1),(2,some 2),(3,some 3),(4,some 4)] rfl rfl ?_ ?_,(Option.some.inj h_3).symm⟩
     ·cbv;all_goals exact⟨⟨_,rfl,rfl⟩,⟨_,rfl,rfl⟩,⟨_,rfl,rfl⟩,⟨_,rfl,rfl⟩,⟨_,rfl,rfl⟩,⟨_,rfl,rfl⟩,⟨_,rfl,rfl⟩,trivial⟩
     cbv;all_goals exact⟨⟨_,rfl,_,rfl,rfl,rfl,rfl,trivial⟩,⟨_,rfl,_,rfl,rfl,rfl,trivial⟩,⟨_,rfl,_,rfl,rfl,rfl,trivial⟩,⟨_,rfl,rfl⟩,⟨_,rfl,rfl⟩,trivial⟩
    rw[ab hb6] at h_3;cbv;obtain⟨x4,hx4,h_3⟩:=ac h_3;try dsimp only at h_3
    refine ACall.mk _ _ rfl (hF _ _ _ (rH hg ht hx4)) (.inl rfl) (nb rfl) ?_;cbv
    cases hb7:x4
    ·rw[aa hb7] at h_3;cbv;try rw[hg] at h_3
     try rw[ht] at h_3
     refine⟨⟨(k3+1,(wrap .i64 (add v3 1)),w3),hc3_,hs3,h_3⟩,Wk.of [(0,some 0),(1,some 1),(2,some 2),(3,some 3),(4,some 4)] rfl rfl ?_ ?_,a8 hc3_⟩
     ·cbv;all_goals exact⟨⟨_,rfl,rfl⟩,⟨_,rfl,rfl⟩,⟨_,rfl,rfl⟩,⟨_,rfl,rfl⟩,⟨_,rfl,rfl⟩,⟨_,rfl,rfl⟩,⟨_,rfl,rfl⟩,⟨_,rfl,rfl⟩,trivial⟩
     cbv;all_goals exact⟨⟨_,rfl,_,rfl,rfl,rfl,rfl,trivial⟩,⟨_,rfl,_,rfl,rfl,rfl,trivial⟩,⟨_,rfl,_,rfl,rfl,rfl,trivial⟩,⟨_,rfl,rfl⟩,⟨_,rfl,rfl⟩,trivial⟩
    rw[ab hb7] at h_3;cbv;obtain⟨l3,hl3,h_3⟩:=ak h_3;try dsimp only at h_3
    refine ANew.mk (d_Trip l3) (dlen (d_Trip l3)) (by rw[←hl3];exact xZ hg ht [(Trip.mk v3 v2)]) (by rw[←hl3];exact vp hg ht [(Trip.mk v3 v2)]) ?_;cbv;obtain⟨hc2,h_3⟩:=al h_3;refine AStep.mk ⟨⟨rfl,(aW hg ht _)⟩,(sd hg ht (aW hg ht _) rfl hc2)⟩ ?_;cbv;obtain⟨l4,hl4,h_3⟩:=ak h_3;try dsimp only at h_3
    refine ANew.mk (d_Trip l4) (dlen (d_Trip l4)) (by rw[←hl4];exact yH hg ht (aW hg ht _) rfl) (by rw[←hl4];exact vD hg ht (aW hg ht _) rfl) ?_;cbv;try rw[hg] at h_3
    try rw[ht] at h_3
    refine⟨⟨(k3+1,(wrap .i64 (add v3 1)),l4),hc3_,hs3,h_3⟩,Wk.of [(0,some 0),(1,some 1),(2,some 2),(3,some 3),(4,some 421)] rfl rfl ?_ ?_,a8 hc3_⟩
    ·cbv;all_goals exact⟨⟨_,rfl,rfl⟩,⟨_,rfl,rfl⟩,⟨_,rfl,rfl⟩,⟨_,rfl,rfl⟩,⟨_,rfl,rfl⟩,⟨_,rfl,rfl⟩,⟨_,rfl,rfl⟩,⟨_,rfl,rfl⟩,trivial⟩
    cbv;all_goals exact⟨⟨_,rfl,_,rfl,rfl,rfl,rfl,trivial⟩,⟨_,rfl,_,rfl,rfl,rfl,trivial⟩,⟨_,rfl,_,rfl,rfl,rfl,trivial⟩,⟨_,rfl,rfl⟩,⟨_,rfl,rfl⟩,trivial⟩
   have hb5:lt v3 (llen (r_Leg a0_Legs))=false:=cR hg ht hi3 hc3_;rw[List.drop_of_length_le (Nat.le_of_not_lt hc3_)] at h_3;rw[dA] at h_3;try rw[←hg] at h_3
   try rw[←ht] at h_3
   try dsimp only at h_3
   rw[hb5];cbv;iterate 4 try(rw[hb5];cbv)
   refine⟨w3,Wk.of [(0,some 0),(1,some 1),(2,some 2),(3,some 3),(4,some 4)] rfl rfl ?_ ?_,(Option.some.inj h_3).symm⟩
   ·cbv;all_goals exact⟨⟨_,rfl,rfl⟩,⟨_,rfl,rfl⟩,⟨_,rfl,rfl⟩,⟨_,rfl,rfl⟩,⟨_,rfl,rfl⟩,⟨_,rfl,rfl⟩,⟨_,rfl,rfl⟩,trivial⟩
   cbv;all_goals exact⟨⟨_,rfl,_,rfl,rfl,rfl,rfl,trivial⟩,⟨_,rfl,_,rfl,rfl,rfl,trivial⟩,⟨_,rfl,_,rfl,rfl,rfl,trivial⟩,⟨_,rfl,rfl⟩,⟨_,rfl,rfl⟩,trivial⟩
  rintro y2 hy3;replace hy3:=hy3.symm;subst hy3;try dsimp only[lr,lrL,lrp,aR] at h_2
  cbv;try rw[hg] at h_2
  try rw[ht] at h_2
  refine⟨⟨(n2,(wrap .i64 (add v2 1)),y2),hs2.1,hs2.2,h_2⟩,Wk.of [(0,some 0),(1,some 1),(2,some 2),(3,some 3),(4,some 4)] rfl rfl ?_ ?_,Nat.lt_succ_self _⟩
  ·cbv;all_goals exact⟨⟨_,rfl,rfl⟩,⟨_,rfl,rfl⟩,⟨_,rfl,rfl⟩,⟨_,rfl,rfl⟩,⟨_,rfl,rfl⟩,⟨_,rfl,rfl⟩,⟨_,rfl,rfl⟩,trivial⟩
  cbv;all_goals exact⟨⟨_,rfl,_,rfl,rfl,rfl,rfl,trivial⟩,⟨_,rfl,_,rfl,rfl,rfl,trivial⟩,⟨_,rfl,_,rfl,rfl,rfl,trivial⟩,⟨_,rfl,rfl⟩,⟨_,rfl,rfl⟩,trivial⟩
 rintro y3 hy2;replace hy2:=hy2.symm;subst hy2;try dsimp only[lr,lrL,lrp,aR] at h
 cbv;obtain rfl:=Option.some.inj h;exact ARet.mk ⟨⟨rfl,(aq hg ht _)⟩,⟨rfl,(aW hg ht _)⟩⟩ hX.symm
def ir48:J:=js [jq 4 (.box 0),jq 8 (.alloc [.n 1,.n 2])] [1,2,3,4,8] (js [jq 16 (.bld [.n 1,.n 2] []),jq 9 (.alloc [.n 1,.n 2]),jp (.st 2 9 16)] [1,2,3,4,8,9] (.seq (js [jl 17 3 4,jc 18 88 [17],jq 19 (.not 18)] [1,2,3,4,8,9,19] (.cond 19 (js [jl 20 2 9,jp (.st 2 8 20)] [8] .ret) .skip)) (js [jl 21 3 4,jm 22 1,jm 23 2,jm 24 3,jc 25 89 [21,22,23,24],jq 10 (.alloc [.n 6,.n 1,.r (.v (.int .i64 0)),.r (.v (.int .i64 0)),.r (.v (.bool false)),.r (.v (.string .empty)),.r (.v (.int .i64 0)),.r (.v (.int .i64 0)),.r (.v (.bool false)),.r (.v (.bool false)),.r (.v (.string .empty)),.r (.v (.int .i64 0)),.r (.v (.string .empty)),.r (.v (.int .i64 0)),.r (.v (.bool false))]),jp (.st 15 10 25)] [4,8,9,10] (.seq (js [jl 26 3 4,jc 27 82 [26],jq 28 (.len false 27),jm 29 (ki 0)] [4,8,9,10,27,28,29] (.bl 0 (js [jb 30 .lss .i 29 28] [4,8,9,10,27,28,29,30] (.seq (.cond 30 .skip (.exit 0)) (.seq (.block 1 (js [ja 31 1 27 29,jk 32 31,jm 12 32] [4,8,9,10,12,27,28,29] (js [jl 33 15 10,jm 34 12,jc 35 90 [33,34]] [4,8,9,10,12,27,28,29,35] (.cond 35 (.reg none [jf 36 0 9,jk 37 36,jm 38 12,jq 39 (.bsl 1 [38]),jq 40 (.app 1 16 true 37 39),jf 41 0 9,jp (.st 1 41 40)] [4,8,9,10,27,28,29]) .skip)))) (.reg none [jb 42 .add .i 29 (ki 1),jm 29 42] [4,8,9,10,27,28,29])))))) (.seq (js [jm 13 (ki 0)] [4,8,9,10,13] (.bl 2 (.seq (js [jm 43 13,jb 44 .leq .i 43 (ki 60)] [4,8,9,10,13,44] (.cond 44 .skip (.exit 2))) (.seq (.block 3 (js [jf 47 0 4,jk 48 47,jq 49 (.len false 48),jm 50 (ki 0)] [4,8,9,10,13,49,50] (.bl 4 (js [jb 51 .lss .i 50 49] [4,8,9,10,13,49,50,51] (.seq (.cond 51 .skip (.exit 4)) (.seq (.block 5 (js [jm 52 50,jm 14 52] [4,8,9,10,13,14,49,50] (js [jm 53 14,jm 54 13,jq 55 (.bld [.r (.v (.int .i64 0)),.r (.v (.int .i64 0))] [(0,1,53),(1,1,54)]),jq 15 (.alloc [.r (.v (.int .i64 0)),.r (.v (.int .i64 0))]),jp (.st 2 15 55)] [4,8,9,10,13,14,15,49,50] (js [jf 56 1 9,jk 57 56,jq 58 (.len false 57),jb 59 .lss .i 58 (ki 60),jm 60 59,ju 61 60 (.ld true 3 4),ju 62 60 (.mv 14),ju 63 60 (.mv 13),ju 64 60 (.call 94 true [61,62,63]),jq 65 (.pick 60 64 kf),jm 66 65,ju 67 66 (.ld true 15 10),ju 68 66 (.ld true 2 15),ju 69 66 (.call 93 true [67,68]),jq 70 (.pick 66 69 kf)] [4,8,9,10,13,15,49,50,70] (.cond 70 (.reg none [jf 71 1 9,jk 72 71,jl 73 2 15,jq 74 (.bsl 2 [73]),jq 75 (.app 2 16 true 72 74),jf 76 1 9,jp (.st 1 76 75)] [4,8,9,10,13,49,50]) .skip))))) (.reg none [jb 77 .add .i 50 (ki 1),jm 50 77] [4,8,9,10,13,49,50]))))))) (.reg none [jm 45 13,jb 46 .add .i 45 (ki 1),jm 13 46] [4,8,9,10,13]))))) (js [jl 78 2 9,jp (.st 2 8 78)] [8] .ret))))))
def rv48:List RV:=[.c 8 true 2]
def cw (g:G) (t:TE) (a0:Network) (v2:Int) (x2:Know):List Leg→Int→List Trip→Option (List Trip)
 |[],v3,w3=>
  some w3
 |z3::ls3,v3,w3=>
  br (g.lt (g.int (g.dlen (t.d_Trip w3))) 60)
  (
   cl (od g t a0 v3 v2) fun x6=>
   br x6
   (
    cl (aB g t (Know.mk (Network.mk x2.n.Legs x2.n.Off x2.n.Change) x2.at_ x2.known x2.place (Trip.mk x2.ride.Leg x2.ride.Day) x2.rides x2.free (Spot.mk x2.from_.Place x2.from_.At) (Spot.mk x2.to.Place x2.to.At) x2.more) (Trip.mk v3 v2)) fun x7=>
    br x7
    (
     lP ([(Trip.mk v3 v2)]) fun(l3:List Trip)=>
     gd (((w3.length+l3.length)*16≤70368744177664))<|
     lP (w3++l3) fun(l4:List Trip)=>
     cw g t a0 v2 x2 ls3 (g.wrap .i64 (g.add v3 1)) l4)
    (
     cw g t a0 v2 x2 ls3 (g.wrap .i64 (g.add v3 1)) w3))
   (
    cw g t a0 v2 x2 ls3 (g.wrap .i64 (g.add v3 1)) w3))
  (
   cw g t a0 v2 x2 ls3 (g.wrap .i64 (g.add v3 1)) w3)
def ei (g:G) (t:TE) (a0:Network) (x2:Know):Nat→Int→List Trip→Option (List Trip)
 |0,v2,w2=>
  some w2
 |n2+1,v2,w2=>
  cl (cw g t a0 v2 x2 a0.Legs 0 w2) fun y2=>
  ei g t a0 x2 n2 (g.wrap .i64 (g.add v2 1)) y2
def dz (g:G) (t:TE) (x2:Know) (x3:List ByteArray):Nat→Int→List ByteArray→Option (List ByteArray)
 |0,v1,w1=>
  some w1
 |n1+1,v1,w1=>
  gt x3 (g.nat v1) fun x4=>
  cl (aC g t (Know.mk (Network.mk x2.n.Legs x2.n.Off x2.n.Change) x2.at_ x2.known x2.place (Trip.mk x2.ride.Leg x2.ride.Day) x2.rides x2.free (Spot.mk x2.from_.Place x2.from_.At) (Spot.mk x2.to.Place x2.to.At) x2.more) x4) fun x5=>
  br x5
  (
   lP ([x4]) fun(l1:List ByteArray)=>
   gd (((w1.length+l1.length)*16≤70368744177664))<|
   lP (w1++l1) fun(l2:List ByteArray)=>
   dz g t x2 x3 n1 (g.wrap .i64 (g.add v1 1)) l2)
  (
   dz g t x2 x3 n1 (g.wrap .i64 (g.add v1 1)) w1)
def gR (g:G) (t:TE) (a0:Network) (a1:List Scan) (a2:Int) (a3:Int):Option Belief:=
 cl (eA g t a0) fun x1=>
 br x1
 (
  cl (jS g t a0 a1 a2 a3) fun x2=>
  cl (eK g t a0) fun x3=>
  gd (((g.int (g.dlen (t.d_S x3)))≤9223372036854775807))<|
  cl (dz g t x2 x3 (ay 0 (g.int (g.dlen (t.d_S x3)))) 0 []) fun y1=>
  cl (ei g t a0 x2 (gp 0 60) 0 []) fun y3=>
  some (Belief.mk y1 y3))
 (
  some (Belief.mk [] []))
theorem kW {g:G} {t:TE} {a0:Network} {a1:List Scan} {a2:Int} {a3:Int} {r:Belief} (hg:g=G.real) (ht:t=TE.real) (h:gR g t a0 a1 a2 a3=some r):Fn Tryz.prog 48 [.g (Network.rs t a0),.c (.s 6 (t.r_Scan a1)),.c (.v (.int .i64 a2)),.c (.v (.int .i64 a3))] (.g (Belief.ds t r)):=by
 obtain⟨X,hX⟩:=aH (.g (Belief.ds t r):X);rw[←hX];refine aw (rvs:=rv48) (j:=ir48) Tryz.func48 rfl (by kernel_rfl) (nb rfl) (by kernel_rfl) af ?_;intro g2 F hg2 hF;obtain rfl:g2=g:=hg2.unique.trans hg.symm;clear hg2;obtain⟨wrap,lt,le,_,_,_,_,_,_,_,_,_,int,add,_,_,_,_,_,_,_,llen,_,_,dlen⟩:=g2;obtain⟨r_Leg,_,r_I64,_,_,_,_,d_S,_,d_Trip⟩:=t
 obtain⟨a0_Legs,a0_Off,a0_Change⟩:=a0;have hnil_S:d_S []=[]:=Bk ht;have hnil_Trip:d_Trip []=[]:=uq ht;unfold gR at h;try dsimp only at h
 cbv;obtain⟨x1,hx1,h⟩:=ac h;try dsimp only at h
 refine ACall.mk _ _ rfl (hF _ _ _ (iB hg ht hx1)) (.inl rfl) (nb rfl) ?_;cbv
 cases hb1:x1
 ·rw[aa hb1] at h;cbv;obtain rfl:=Option.some.inj h;exact ARet.mk trivial (by rw[hX];first|rfl|(simp only[Leg.ds,Network.ds,Trip.ds,Scan.ds,Belief.ds,Spot.ds,Know.ds,hnil_S,hnil_Trip];try rfl))
 rw[ab hb1] at h;cbv;obtain⟨x2,hx2,h⟩:=ac h;obtain⟨⟨x2_n_Legs,x2_n_Off,x2_n_Change⟩,x2_at_,x2_known,x2_place,⟨x2_ride_Leg,x2_ride_Day⟩,x2_rides,x2_free,⟨x2_from__Place,x2_from__At⟩,⟨x2_to_Place,x2_to_At⟩,x2_more⟩:=x2;try dsimp only at h
 refine ACall.mk _ _ rfl (hF _ _ _ (ou hg ht hx2)) (.inl rfl) (nb rfl) ?_;cbv;obtain⟨x3,hx3,h⟩:=ac h;try dsimp only at h
 refine ACall.mk _ _ rfl (hF _ _ _ (gg hg ht hx3)) (.inl rfl) (nb rfl) ?_;cbv;obtain⟨hB1,h⟩:=al h;obtain⟨o1,ho1,h⟩:=ac h;try dsimp only at h
 try rw[hg] at ho1
 try rw[ht] at ho1
 refine ABL.mk {p:Nat×Int×List ByteArray//p.1=ay p.2.1 (int (dlen (d_S x3)))∧0≤p.2.1∧dz G.real TE.real (Know.mk (Network.mk x2_n_Legs x2_n_Off x2_n_Change) x2_at_ x2_known x2_place (Trip.mk x2_ride_Leg x2_ride_Day) x2_rides x2_free (Spot.mk x2_from__Place x2_from__At) (Spot.mk x2_to_Place x2_to_At) x2_more) x3 p.1 p.2.1 p.2.2=some o1} (fun⟨⟨n1,v1,w1⟩,_⟩=>({sl:=[(4,.c (.p 0 3 0 0)),(8,.c (.p 1 2 0 0)),(9,.c (.p 2 2 0 0)),(10,.c (.p 4 15 0 0)),(27,.c (.f 5 1 0 (dlen (d_S x3)))),(28,.c (.r (.v (.int .i64 (int (dlen (d_S x3))))))),(29,.c (.r (.v (.int .i64 v1))))],tab:=[(0,some (.foc 3 [] [.r (.s 6 (r_Leg a0_Legs)),.r (.s 1 (r_I64 a0_Off)),.r (.v (.int .i64 a0_Change))] [])),(1,some (.foc 2 [] [.n 1,.n 2] [])),(2,some (.foc 2 [] [.f 3 1 0 (dlen (d_S w1)),.n 2] [])),(3,some (.arr 1 (d_S w1))),(4,some (.foc 15 [] [.r (.s 6 (r_Leg x2_n_Legs)),.r (.s 1 (r_I64 x2_n_Off)),.r (.v (.int .i64 x2_n_Change)),.r (.v (.int .i64 x2_at_)),.r (.v (.bool x2_known)),.r (.v (.string x2_place)),.r (.v (.int .i64 x2_ride_Leg)),.r (.v (.int .i64 x2_ride_Day)),.r (.v (.bool x2_rides)),.r (.v (.bool x2_free)),.r (.v (.string x2_from__Place)),.r (.v (.int .i64 x2_from__At)),.r (.v (.string x2_to_Place)),.r (.v (.int .i64 x2_to_At)),.r (.v (.bool x2_more))] [])),(5,some (.arr 1 (d_S x3)))]}:St)) 6 (fun p=>p.1.1) ⟨(ay 0 (int (dlen (d_S x3))),0,[]),rfl,Int.le_refl _,ho1⟩ (List ByteArray) (fun y1=>({sl:=[(4,.c (.p 0 3 0 0)),(8,.c (.p 1 2 0 0)),(9,.c (.p 2 2 0 0)),(10,.c (.p 4 15 0 0))],tab:=[(0,some (.foc 3 [] [.r (.s 6 (r_Leg a0_Legs)),.r (.s 1 (r_I64 a0_Off)),.r (.v (.int .i64 a0_Change))] [])),(1,some (.foc 2 [] [.n 1,.n 2] [])),(2,some (.foc 2 [] [.f 3 1 0 (dlen (d_S y1)),.n 2] [])),(3,some (.arr 1 (d_S y1))),(4,some (.foc 15 [] [.r (.s 6 (r_Leg x2_n_Legs)),.r (.s 1 (r_I64 x2_n_Off)),.r (.v (.int .i64 x2_n_Change)),.r (.v (.int .i64 x2_at_)),.r (.v (.bool x2_known)),.r (.v (.string x2_place)),.r (.v (.int .i64 x2_ride_Leg)),.r (.v (.int .i64 x2_ride_Day)),.r (.v (.bool x2_rides)),.r (.v (.bool x2_free)),.r (.v (.string x2_from__Place)),.r (.v (.int .i64 x2_from__At)),.r (.v (.string x2_to_Place)),.r (.v (.int .i64 x2_to_At)),.r (.v (.bool x2_more))] []))]}:St)) 5 (fun y=>o1=y) ?_ ?_ ?_
 ·refine Wk.of [(0,some 0),(1,some 16),(2,some 48),(3,none),(4,some 208),(5,some 256)] rfl rfl ?_ ?_
  ·cbv;all_goals try rw[show dlen (d_S [])=0 from nE hg ht]
   all_goals try rw[hnil_S]
   all_goals exact⟨⟨_,rfl,rfl⟩,⟨_,rfl,rfl⟩,⟨_,rfl,rfl⟩,⟨_,rfl,rfl⟩,⟨_,rfl,rfl⟩,⟨_,rfl,rfl⟩,⟨_,rfl,rfl⟩,trivial⟩
  cbv;all_goals try rw[show dlen (d_S [])=0 from nE hg ht]
  all_goals try rw[hnil_S]
  all_goals exact⟨⟨_,rfl,_,rfl,rfl,rfl,rfl,trivial⟩,⟨_,rfl,_,rfl,rfl,rfl,trivial⟩,⟨_,rfl,_,rfl,⟨⟨_,rfl⟩,rfl,rfl⟩,rfl,trivial⟩,⟨_,rfl⟩,⟨_,rfl,_,rfl,rfl,rfl,rfl,rfl,rfl,rfl,rfl,rfl,rfl,rfl,rfl,rfl,rfl,rfl,rfl,trivial⟩,⟨_,rfl,rfl⟩,trivial⟩
 ·rintro⟨⟨n1,v1,w1⟩,hn1,hi1,h_1⟩ hq1;try dsimp only at hn1 hi1 h_1
  clear hq1;cbv;rcases n1 with _|n1
  ·have hb2:lt v1 (int (dlen (d_S x3)))=false:=bu hg hn1;rw[dz] at h_1;try rw[←hg] at h_1
   try rw[←ht] at h_1
   try dsimp only at h_1
   rw[hb2];cbv;refine⟨w1,Wk.of [(0,some 0),(1,some 1),(2,some 2),(3,some 3),(4,some 4)] rfl rfl ?_ ?_,(Option.some.inj h_1).symm⟩
   ·cbv;all_goals exact⟨⟨_,rfl,rfl⟩,⟨_,rfl,rfl⟩,⟨_,rfl,rfl⟩,⟨_,rfl,rfl⟩,trivial⟩
   cbv;all_goals exact⟨⟨_,rfl,_,rfl,rfl,rfl,rfl,trivial⟩,⟨_,rfl,_,rfl,rfl,rfl,trivial⟩,⟨_,rfl,_,rfl,rfl,rfl,trivial⟩,⟨_,rfl,rfl⟩,⟨_,rfl,_,rfl,rfl,rfl,rfl,rfl,rfl,rfl,rfl,rfl,rfl,rfl,rfl,rfl,rfl,rfl,rfl,trivial⟩,trivial⟩
  have hb2:lt v1 (int (dlen (d_S x3)))=true:=bF hg hn1;have hl1:=d8 hn1;have hs1:=cM hg hn1 hi1 hB1 (by decide);rw[dz] at h_1;try rw[←hg] at h_1
  try rw[←ht] at h_1
  try dsimp only at h_1
  rw[hb2];cbv;refine AStep.mk (dR hg hi1 hl1) ?_;cbv;obtain⟨x4,hx4,h_1⟩:=aE h_1;try dsimp only at h_1
  refine AGet.mk _ (g9 hg ht hx4) ?_;cbv;obtain⟨x5,hx5,h_1⟩:=ac h_1;try dsimp only at h_1
  refine ACall.mk _ _ rfl (hF _ _ _ (cK hg ht hx5)) (.inl rfl) (nb rfl) ?_;cbv
  cases hb3:x5
  ·rw[aa hb3] at h_1;cbv;try rw[hg] at h_1
   try rw[ht] at h_1
   refine⟨⟨(n1,(wrap .i64 (add v1 1)),w1),hs1.1,hs1.2,h_1⟩,Wk.of [(0,some 0),(1,some 1),(2,some 2),(3,some 3),(4,some 4),(5,some 5)] rfl rfl ?_ ?_,Nat.lt_succ_self _⟩
   ·cbv;all_goals exact⟨⟨_,rfl,rfl⟩,⟨_,rfl,rfl⟩,⟨_,rfl,rfl⟩,⟨_,rfl,rfl⟩,⟨_,rfl,rfl⟩,⟨_,rfl,rfl⟩,⟨_,rfl,rfl⟩,trivial⟩
   cbv;all_goals exact⟨⟨_,rfl,_,rfl,rfl,rfl,rfl,trivial⟩,⟨_,rfl,_,rfl,rfl,rfl,trivial⟩,⟨_,rfl,_,rfl,rfl,rfl,trivial⟩,⟨_,rfl,rfl⟩,⟨_,rfl,_,rfl,rfl,rfl,rfl,rfl,rfl,rfl,rfl,rfl,rfl,rfl,rfl,rfl,rfl,rfl,rfl,trivial⟩,⟨_,rfl,rfl⟩,trivial⟩
  rw[ab hb3] at h_1;cbv;obtain⟨l1,hl1,h_1⟩:=ak h_1;try dsimp only at h_1
  refine ANew.mk (d_S l1) (dlen (d_S l1)) (by rw[←hl1];exact jG hg ht [x4]) (by rw[←hl1];exact gD hg ht [x4]) ?_;cbv;obtain⟨hc1,h_1⟩:=al h_1;refine AStep.mk ⟨⟨rfl,(aq hg ht _)⟩,(dF hg ht (aq hg ht _) rfl hc1)⟩ ?_;cbv;obtain⟨l2,hl2,h_1⟩:=ak h_1;try dsimp only at h_1
  refine ANew.mk (d_S l2) (dlen (d_S l2)) (by rw[←hl2];exact kr hg ht (aq hg ht _) rfl) (by rw[←hl2];exact gY hg ht (aq hg ht _) rfl) ?_;cbv;try rw[hg] at h_1
  try rw[ht] at h_1
  refine⟨⟨(n1,(wrap .i64 (add v1 1)),l2),hs1.1,hs1.2,h_1⟩,Wk.of [(0,some 0),(1,some 1),(2,some 2),(3,some 182),(4,some 4),(5,some 5)] rfl rfl ?_ ?_,Nat.lt_succ_self _⟩
  ·cbv;all_goals exact⟨⟨_,rfl,rfl⟩,⟨_,rfl,rfl⟩,⟨_,rfl,rfl⟩,⟨_,rfl,rfl⟩,⟨_,rfl,rfl⟩,⟨_,rfl,rfl⟩,⟨_,rfl,rfl⟩,trivial⟩
  cbv;all_goals exact⟨⟨_,rfl,_,rfl,rfl,rfl,rfl,trivial⟩,⟨_,rfl,_,rfl,rfl,rfl,trivial⟩,⟨_,rfl,_,rfl,rfl,rfl,trivial⟩,⟨_,rfl,rfl⟩,⟨_,rfl,_,rfl,rfl,rfl,rfl,rfl,rfl,rfl,rfl,rfl,rfl,rfl,rfl,rfl,rfl,rfl,rfl,trivial⟩,⟨_,rfl,rfl⟩,trivial⟩
 rintro y1 hy1;replace hy1:=hy1.symm;subst hy1;try dsimp only[lr,lrL,lrp,aR] at h
 cbv;obtain⟨o2,ho2,h⟩:=ac h;try dsimp only at h
 try rw[hg] at ho2
 try rw[ht] at ho2
 refine ABL.mk {p:Nat×Int×List Trip//p.1=gp p.2.1 60∧0≤p.2.1∧ei G.real TE.real (Network.mk a0_Legs a0_Off a0_Change) (Know.mk (Network.mk x2_n_Legs x2_n_Off x2_n_Change) x2_at_ x2_known x2_place (Trip.mk x2_ride_Leg x2_ride_Day) x2_rides x2_free (Spot.mk x2_from__Place x2_from__At) (Spot.mk x2_to_Place x2_to_At) x2_more) p.1 p.2.1 p.2.2=some o2} (fun⟨⟨n2,v2,w2⟩,_⟩=>({sl:=[(4,.c (.p 0 3 0 0)),(8,.c (.p 1 2 0 0)),(9,.c (.p 2 2 0 0)),(10,.c (.p 5 15 0 0)),(13,.c (.r (.v (.int .i64 v2))))],tab:=[(0,some (.foc 3 [] [.r (.s 6 (r_Leg a0_Legs)),.r (.s 1 (r_I64 a0_Off)),.r (.v (.int .i64 a0_Change))] [])),(1,some (.foc 2 [] [.n 1,.n 2] [])),(2,some (.foc 2 [] [.f 3 1 0 (dlen (d_S y1)),.f 4 2 0 (dlen (d_Trip w2))] [])),(3,some (.arr 1 (d_S y1))),(4,some (.arr 2 (d_Trip w2))),(5,some (.foc 15 [] [.r (.s 6 (r_Leg x2_n_Legs)),.r (.s 1 (r_I64 x2_n_Off)),.r (.v (.int .i64 x2_n_Change)),.r (.v (.int .i64 x2_at_)),.r (.v (.bool x2_known)),.r (.v (.string x2_place)),.r (.v (.int .i64 x2_ride_Leg)),.r (.v (.int .i64 x2_ride_Day)),.r (.v (.bool x2_rides)),.r (.v (.bool x2_free)),.r (.v (.string x2_from__Place)),.r (.v (.int .i64 x2_from__At)),.r (.v (.string x2_to_Place)),.r (.v (.int .i64 x2_to_At)),.r (.v (.bool x2_more))] []))]}:St)) 6 (fun p=>p.1.1) ⟨(gp 0 60,0,[]),rfl,Int.le_refl _,ho2⟩ (List Trip) (fun y3=>({sl:=[(8,.c (.p 0 2 0 0)),(9,.c (.p 1 2 0 0))],tab:=[(0,some (.foc 2 [] [.n 1,.n 2] [])),(1,some (.foc 2 [] [.f 2 1 0 (dlen (d_S y1)),.f 3 2 0 (dlen (d_Trip y3))] [])),(2,some (.arr 1 (d_S y1))),(3,some (.arr 2 (d_Trip y3)))]}:St)) 4 (fun y=>o2=y) ?_ ?_ ?_
 ·refine Wk.of [(0,some 0),(1,some 1),(2,some 2),(3,some 3),(4,none),(5,some 4)] rfl rfl ?_ ?_
  ·cbv;all_goals try rw[show dlen (d_Trip [])=0 from kc hg ht]
   all_goals try rw[hnil_Trip]
   all_goals exact⟨⟨_,rfl,rfl⟩,⟨_,rfl,rfl⟩,⟨_,rfl,rfl⟩,⟨_,rfl,rfl⟩,⟨_,rfl,rfl⟩,trivial⟩
  cbv;all_goals try rw[show dlen (d_Trip [])=0 from kc hg ht]
  all_goals try rw[hnil_Trip]
  all_goals exact⟨⟨_,rfl,_,rfl,rfl,rfl,rfl,trivial⟩,⟨_,rfl,_,rfl,rfl,rfl,trivial⟩,⟨_,rfl,_,rfl,rfl,⟨⟨_,rfl⟩,rfl,rfl⟩,trivial⟩,⟨_,rfl,rfl⟩,⟨_,rfl⟩,⟨_,rfl,_,rfl,rfl,rfl,rfl,rfl,rfl,rfl,rfl,rfl,rfl,rfl,rfl,rfl,rfl,rfl,rfl,trivial⟩,trivial⟩
 ·rintro⟨⟨n2,v2,w2⟩,hn2,hi2,h_2⟩ hq2;try dsimp only at hn2 hi2 h_2
  clear hq2;cbv;rcases n2 with _|n2
  ·have hb4:le v2 60=false:=oK hg hn2;rw[ei] at h_2;try rw[←hg] at h_2
   try rw[←ht] at h_2
   try dsimp only at h_2
   rw[hb4];cbv;refine⟨w2,Wk.of [(0,some 1),(1,some 2),(2,some 3),(3,some 4)] rfl rfl ?_ ?_,(Option.some.inj h_2).symm⟩
   ·cbv;all_goals exact⟨⟨_,rfl,rfl⟩,⟨_,rfl,rfl⟩,trivial⟩
   cbv;all_goals exact⟨⟨_,rfl,_,rfl,rfl,rfl,trivial⟩,⟨_,rfl,_,rfl,rfl,rfl,trivial⟩,⟨_,rfl,rfl⟩,⟨_,rfl,rfl⟩,trivial⟩
  have hb4:le v2 60=true:=qj hg hn2;have hl2:=wz hn2;have hs2:=sM hg hn2 hi2 (by decide) (by decide);rw[ei] at h_2;try rw[←hg] at h_2
  try rw[←ht] at h_2
  try dsimp only at h_2
  rw[hb4];cbv;obtain⟨o3,ho3,h_2⟩:=ac h_2;try dsimp only at h_2
  try rw[hg] at ho3
  try rw[ht] at ho3
  refine ABL.mk {p:Nat×Int×List Trip//p.1≤a0_Legs.length∧p.2.1=((p.1:Nat):Int)∧cw G.real TE.real (Network.mk a0_Legs a0_Off a0_Change) v2 (Know.mk (Network.mk x2_n_Legs x2_n_Off x2_n_Change) x2_at_ x2_known x2_place (Trip.mk x2_ride_Leg x2_ride_Day) x2_rides x2_free (Spot.mk x2_from__Place x2_from__At) (Spot.mk x2_to_Place x2_to_At) x2_more) (List.drop p.1 a0_Legs) p.2.1 p.2.2=some o3} (fun⟨⟨k3,v3,w3⟩,_⟩=>({sl:=[(4,.c (.p 0 3 0 0)),(8,.c (.p 1 2 0 0)),(9,.c (.p 2 2 0 0)),(10,.c (.p 5 15 0 0)),(13,.c (.r (.v (.int .i64 v2)))),(49,.c (.r (.v (.int .i64 (llen (r_Leg a0_Legs)))))),(50,.c (.r (.v (.int .i64 v3))))],tab:=[(0,some (.foc 3 [] [.r (.s 6 (r_Leg a0_Legs)),.r (.s 1 (r_I64 a0_Off)),.r (.v (.int .i64 a0_Change))] [])),(1,some (.foc 2 [] [.n 1,.n 2] [])),(2,some (.foc 2 [] [.f 3 1 0 (dlen (d_S y1)),.f 4 2 0 (dlen (d_Trip w3))] [])),(3,some (.arr 1 (d_S y1))),(4,some (.arr 2 (d_Trip w3))),(5,some (.foc 15 [] [.r (.s 6 (r_Leg x2_n_Legs)),.r (.s 1 (r_I64 x2_n_Off)),.r (.v (.int .i64 x2_n_Change)),.r (.v (.int .i64 x2_at_)),.r (.v (.bool x2_known)),.r (.v (.string x2_place)),.r (.v (.int .i64 x2_ride_Leg)),.r (.v (.int .i64 x2_ride_Day)),.r (.v (.bool x2_rides)),.r (.v (.bool x2_free)),.r (.v (.string x2_from__Place)),.r (.v (.int .i64 x2_from__At)),.r (.v (.string x2_to_Place)),.r (.v (.int .i64 x2_to_At)),.r (.v (.bool x2_more))] []))]}:St)) 6 (fun p=>a0_Legs.length-p.1.1) ⟨(0,0,w2),Nat.zero_le _,rfl,ho3⟩ (List Trip) (fun y2=>({sl:=[(4,.c (.p 0 3 0 0)),(8,.c (.p 1 2 0 0)),(9,.c (.p 2 2 0 0)),(10,.c (.p 5 15 0 0)),(13,.c (.r (.v (.int .i64 v2))))],tab:=[(0,some (.foc 3 [] [.r (.s 6 (r_Leg a0_Legs)),.r (.s 1 (r_I64 a0_Off)),.r (.v (.int .i64 a0_Change))] [])),(1,some (.foc 2 [] [.n 1,.n 2] [])),(2,some (.foc 2 [] [.f 3 1 0 (dlen (d_S y1)),.f 4 2 0 (dlen (d_Trip y2))] [])),(3,some (.arr 1 (d_S y1))),(4,some (.arr 2 (d_Trip y2))),(5,some (.foc 15 [] [.r (.s 6 (r_Leg x2_n_Legs)),.r (.s 1 (r_I64 x2_n_Off)),.r (.v (.int .i64 x2_n_Change)),.r (.v (.int .i64 x2_at_)),.r (.v (.bool x2_known)),.r (.v (.string x2_place)),.r (.v (.int .i64 x2_ride_Leg)),.r (.v (.int .i64 x2_ride_Day)),.r (.v (.bool x2_rides)),.r (.v (.bool x2_free)),.r (.v (.string x2_from__Place)),.r (.v (.int .i64 x2_from__At)),.r (.v (.string x2_to_Place)),.r (.v (.int .i64 x2_to_At)),.r (.v (.bool x2_more))] []))]}:St)) 6 (fun y=>o3=y) ?_ ?_ ?_
  ·refine Wk.of [(0,some 0),(1,some 1),(2,some 2),(3,some 3),(4,some 4),(5,some 5)] rfl rfl ?_ ?_
   ·cbv;all_goals exact⟨⟨_,rfl,rfl⟩,⟨_,rfl,rfl⟩,⟨_,rfl,rfl⟩,⟨_,rfl,rfl⟩,⟨_,rfl,rfl⟩,⟨_,rfl,rfl⟩,⟨_,rfl,rfl⟩,trivial⟩
   cbv;all_goals exact⟨⟨_,rfl,_,rfl,rfl,rfl,rfl,trivial⟩,⟨_,rfl,_,rfl,rfl,rfl,trivial⟩,⟨_,rfl,_,rfl,rfl,rfl,trivial⟩,⟨_,rfl,rfl⟩,⟨_,rfl,rfl⟩,⟨_,rfl,_,rfl,rfl,rfl,rfl,rfl,rfl,rfl,rfl,rfl,rfl,rfl,rfl,rfl,rfl,rfl,rfl,trivial⟩,trivial⟩
  ·rintro⟨⟨k3,v3,w3⟩,hk3,hi3,h_3⟩ hq3;have hm3:=(hq3.2.2.1 0 _ _ _ _ 0 _ _ rfl rfl);try dsimp only at hk3 hi3 h_3
   clear hq3;cbv
   by_cases hc3_:k3<a0_Legs.length
   ·have hb5:lt v3 (llen (r_Leg a0_Legs))=true:=dw hg ht hi3 hc3_;have hs3:=gw hg ht hi3 hc3_ hm3;obtain⟨z3,hz3⟩:=aL hc3_;rw[aD hz3] at h_3;rw[cw] at h_3;obtain⟨z3_From,z3_To,z3_Start,z3_Takes,z3_Days,z3_Room⟩:=z3;try rw[←hg] at h_3
    try rw[←ht] at h_3
    try dsimp only at h_3
    rw[hb5];cbv
    cases hb6:(lt (int (dlen (d_Trip w3))) 60)
    ·rw[aa hb6] at h_3;cbv;iterate 4 try(rw[hb6];cbv)
     try rw[hg] at h_3
     try rw[ht] at h_3
     refine⟨⟨(k3+1,(wrap .i64 (add v3 1)),w3),hc3_,hs3,h_3⟩,Wk.of [(0,some 0),(1,some 1),(2,some 2),(3,some 3),(4,some 4),(5,some 5)] rfl rfl ?_ ?_,a8 hc3_⟩
     ·cbv;all_goals exact⟨⟨_,rfl,rfl⟩,⟨_,rfl,rfl⟩,⟨_,rfl,rfl⟩,⟨_,rfl,rfl⟩,⟨_,rfl,rfl⟩,⟨_,rfl,rfl⟩,⟨_,rfl,rfl⟩,trivial⟩
     cbv;all_goals exact⟨⟨_,rfl,_,rfl,rfl,rfl,rfl,trivial⟩,⟨_,rfl,_,rfl,rfl,rfl,trivial⟩,⟨_,rfl,_,rfl,rfl,rfl,trivial⟩,⟨_,rfl,rfl⟩,⟨_,rfl,rfl⟩,⟨_,rfl,_,rfl,rfl,rfl,rfl,rfl,rfl,rfl,rfl,rfl,rfl,rfl,rfl,rfl,rfl,rfl,rfl,trivial⟩,trivial⟩
    rw[ab hb6] at h_3;cbv;iterate 3 try(rw[hb6];cbv)
    obtain⟨x6,hx6,h_3⟩:=ac h_3;try dsimp only at h_3
    refine ACall.mk _ _ rfl (hF _ _ _ (tV hg ht hx6)) (.inl rfl) (nb rfl) ?_;cbv;try(rw[hb6];cbv)
    cases hb7:x6
    ·rw[aa hb7] at h_3;cbv;iterate 3 try(rw[hb7];cbv)
     try rw[hg] at h_3
     try rw[ht] at h_3
     refine⟨⟨(k3+1,(wrap .i64 (add v3 1)),w3),hc3_,hs3,h_3⟩,Wk.of [(0,some 0),(1,some 1),(2,some 2),(3,some 3),(4,some 4),(5,some 5)] rfl rfl ?_ ?_,a8 hc3_⟩
     ·cbv;all_goals exact⟨⟨_,rfl,rfl⟩,⟨_,rfl,rfl⟩,⟨_,rfl,rfl⟩,⟨_,rfl,rfl⟩,⟨_,rfl,rfl⟩,⟨_,rfl,rfl⟩,⟨_,rfl,rfl⟩,trivial⟩
     cbv;all_goals exact⟨⟨_,rfl,_,rfl,rfl,rfl,rfl,trivial⟩,⟨_,rfl,_,rfl,rfl,rfl,trivial⟩,⟨_,rfl,_,rfl,rfl,rfl,trivial⟩,⟨_,rfl,rfl⟩,⟨_,rfl,rfl⟩,⟨_,rfl,_,rfl,rfl,rfl,rfl,rfl,rfl,rfl,rfl,rfl,rfl,rfl,rfl,rfl,rfl,rfl,rfl,trivial⟩,trivial⟩
    rw[ab hb7] at h_3;cbv;iterate 2 try(rw[hb7];cbv)
    obtain⟨x7,hx7,h_3⟩:=ac h_3;try dsimp only at h_3
    refine ACall.mk _ _ rfl (hF _ _ _ (cu hg ht hx7)) (.inl rfl) (nb rfl) ?_;cbv;try(rw[hb7];cbv)
    cases hb8:x7
    ·rw[aa hb8] at h_3;cbv;try rw[hg] at h_3
     try rw[ht] at h_3
     refine⟨⟨(k3+1,(wrap .i64 (add v3 1)),w3),hc3_,hs3,h_3⟩,Wk.of [(0,some 0),(1,some 1),(2,some 2),(3,some 3),(4,some 4),(5,some 5)] rfl rfl ?_ ?_,a8 hc3_⟩
     ·cbv;all_goals exact⟨⟨_,rfl,rfl⟩,⟨_,rfl,rfl⟩,⟨_,rfl,rfl⟩,⟨_,rfl,rfl⟩,⟨_,rfl,rfl⟩,⟨_,rfl,rfl⟩,⟨_,rfl,rfl⟩,trivial⟩
     cbv;all_goals exact⟨⟨_,rfl,_,rfl,rfl,rfl,rfl,trivial⟩,⟨_,rfl,_,rfl,rfl,rfl,trivial⟩,⟨_,rfl,_,rfl,rfl,rfl,trivial⟩,⟨_,rfl,rfl⟩,⟨_,rfl,rfl⟩,⟨_,rfl,_,rfl,rfl,rfl,rfl,rfl,rfl,rfl,rfl,rfl,rfl,rfl,rfl,rfl,rfl,rfl,rfl,trivial⟩,trivial⟩
    rw[ab hb8] at h_3;cbv;obtain⟨l3,hl3,h_3⟩:=ak h_3;try dsimp only at h_3
    refine ANew.mk (d_Trip l3) (dlen (d_Trip l3)) (by rw[←hl3];exact xZ hg ht [(Trip.mk v3 v2)]) (by rw[←hl3];exact vp hg ht [(Trip.mk v3 v2)]) ?_;cbv;obtain⟨hc2,h_3⟩:=al h_3;refine AStep.mk ⟨⟨rfl,(aW hg ht _)⟩,(sd hg ht (aW hg ht _) rfl hc2)⟩ ?_;cbv;obtain⟨l4,hl4,h_3⟩:=ak h_3;try dsimp only at h_3
    refine ANew.mk (d_Trip l4) (dlen (d_Trip l4)) (by rw[←hl4];exact yH hg ht (aW hg ht _) rfl) (by rw[←hl4];exact vD hg ht (aW hg ht _) rfl) ?_;cbv;try rw[hg] at h_3
    try rw[ht] at h_3
    refine⟨⟨(k3+1,(wrap .i64 (add v3 1)),l4),hc3_,hs3,h_3⟩,Wk.of [(0,some 0),(1,some 1),(2,some 2),(3,some 3),(4,some 438),(5,some 5)] rfl rfl ?_ ?_,a8 hc3_⟩
    ·cbv;all_goals exact⟨⟨_,rfl,rfl⟩,⟨_,rfl,rfl⟩,⟨_,rfl,rfl⟩,⟨_,rfl,rfl⟩,⟨_,rfl,rfl⟩,⟨_,rfl,rfl⟩,⟨_,rfl,rfl⟩,trivial⟩
    cbv;all_goals exact⟨⟨_,rfl,_,rfl,rfl,rfl,rfl,trivial⟩,⟨_,rfl,_,rfl,rfl,rfl,trivial⟩,⟨_,rfl,_,rfl,rfl,rfl,trivial⟩,⟨_,rfl,rfl⟩,⟨_,rfl,rfl⟩,⟨_,rfl,_,rfl,rfl,rfl,rfl,rfl,rfl,rfl,rfl,rfl,rfl,rfl,rfl,rfl,rfl,rfl,rfl,trivial⟩,trivial⟩
   have hb5:lt v3 (llen (r_Leg a0_Legs))=false:=cR hg ht hi3 hc3_;rw[List.drop_of_length_le (Nat.le_of_not_lt hc3_)] at h_3;rw[cw] at h_3;try rw[←hg] at h_3
   try rw[←ht] at h_3
   try dsimp only at h_3
   rw[hb5];cbv;refine⟨w3,Wk.of [(0,some 0),(1,some 1),(2,some 2),(3,some 3),(4,some 4),(5,some 5)] rfl rfl ?_ ?_,(Option.some.inj h_3).symm⟩
   ·cbv;all_goals exact⟨⟨_,rfl,rfl⟩,⟨_,rfl,rfl⟩,⟨_,rfl,rfl⟩,⟨_,rfl,rfl⟩,⟨_,rfl,rfl⟩,trivial⟩
   cbv;all_goals exact⟨⟨_,rfl,_,rfl,rfl,rfl,rfl,trivial⟩,⟨_,rfl,_,rfl,rfl,rfl,trivial⟩,⟨_,rfl,_,rfl,rfl,rfl,trivial⟩,⟨_,rfl,rfl⟩,⟨_,rfl,rfl⟩,⟨_,rfl,_,rfl,rfl,rfl,rfl,rfl,rfl,rfl,rfl,rfl,rfl,rfl,rfl,rfl,rfl,rfl,rfl,trivial⟩,trivial⟩
  rintro y2 hy3;replace hy3:=hy3.symm;subst hy3;try dsimp only[lr,lrL,lrp,aR] at h_2
  cbv;try rw[hg] at h_2
  try rw[ht] at h_2
  refine⟨⟨(n2,(wrap .i64 (add v2 1)),y2),hs2.1,hs2.2,h_2⟩,Wk.of [(0,some 0),(1,some 1),(2,some 2),(3,some 3),(4,some 4),(5,some 5)] rfl rfl ?_ ?_,Nat.lt_succ_self _⟩
  ·cbv;all_goals exact⟨⟨_,rfl,rfl⟩,⟨_,rfl,rfl⟩,⟨_,rfl,rfl⟩,⟨_,rfl,rfl⟩,⟨_,rfl,rfl⟩,trivial⟩
  cbv;all_goals exact⟨⟨_,rfl,_,rfl,rfl,rfl,rfl,trivial⟩,⟨_,rfl,_,rfl,rfl,rfl,trivial⟩,⟨_,rfl,_,rfl,rfl,rfl,trivial⟩,⟨_,rfl,rfl⟩,⟨_,rfl,rfl⟩,⟨_,rfl,_,rfl,rfl,rfl,rfl,rfl,rfl,rfl,rfl,rfl,rfl,rfl,rfl,rfl,rfl,rfl,rfl,trivial⟩,trivial⟩
 rintro y3 hy2;replace hy2:=hy2.symm;subst hy2;try dsimp only[lr,lrL,lrp,aR] at h
 cbv;obtain rfl:=Option.some.inj h;exact ARet.mk ⟨⟨rfl,(aq hg ht _)⟩,⟨rfl,(aW hg ht _)⟩⟩ hX.symm
def ir99:J:=js [jq 1 (.box 0),jm 2 (ki 0)] [1] (js [jf 3 0 1,jk 4 3,jq 5 (.len false 4),jf 6 1 1,jk 7 6,jq 8 (.len false 7),jb 9 .add .i 5 8,jm 2 9] [2] .ret)
def rv99:List RV:=[.t 2]
def wv (g:G) (t:TE) (a0:Belief):Int:=
 (g.wrap .i64 (g.add (g.llen (t.r_S a0.Places)) (g.llen (t.r_Trip a0.Rides))))
theorem BA {g:G} {t:TE} {a0:Belief} {r:Int} (hg:g=G.real) (ht:t=TE.real) (h:wv g t a0=r):Fn Tryz.prog 99 [.g (Belief.rs t a0)] (.c (.r (.v (.int .i64 r)))):=by
 obtain⟨X,hX⟩:=aH (.c (.r (.v (.int .i64 r))):X);rw[←hX];refine aw (rvs:=rv99) (j:=ir99) Tryz.func99 rfl (by kernel_rfl) (nb rfl) (by kernel_rfl) af ?_;intro g2 F hg2 hF;obtain rfl:g2=g:=hg2.unique.trans hg.symm;clear hg2;obtain⟨_⟩:=g2;obtain⟨_⟩:=t
 obtain⟨a0_Places,a0_Rides⟩:=a0;unfold wv at h;try dsimp only at h
 cbv;subst h;exact ARet.mk trivial hX.symm
def ir53:J:=js [jq 4 (.box 0),jm 8 kf] [1,2,3,4] (js [jl 9 3 4,jm 10 1,jm 11 2,jm 12 3,jc 13 48 [9,10,11,12],jc 14 99 [13],jb 15 .eql .i 14 (ki 1),jm 8 15] [8] .ret)
def rv53:List RV:=[.t 8]
def ot (g:G) (t:TE) (a0:Network) (a1:List Scan) (a2:Int) (a3:Int):Option Bool:=
 cl (gR g t a0 a1 a2 a3) fun x1=>
 lP (wv g t x1) fun x2=>
 some (g.eq x2 1)
theorem An {g:G} {t:TE} {a0:Network} {a1:List Scan} {a2:Int} {a3:Int} {r:Bool} (hg:g=G.real) (ht:t=TE.real) (h:ot g t a0 a1 a2 a3=some r):Fn Tryz.prog 53 [.g (Network.rs t a0),.c (.s 6 (t.r_Scan a1)),.c (.v (.int .i64 a2)),.c (.v (.int .i64 a3))] (.c (.r (.v (.bool r)))):=by
 obtain⟨X,hX⟩:=aH (.c (.r (.v (.bool r))):X);rw[←hX];refine aw (rvs:=rv53) (j:=ir53) Tryz.func53 rfl (by kernel_rfl) (nb rfl) (by kernel_rfl) af ?_;intro g2 F hg2 hF;obtain rfl:g2=g:=hg2.unique.trans hg.symm;clear hg2;obtain⟨_,_,_,_,_,_,_,_,_,_,_,_,_,_,_,_,_,_,_,_,_,_,_,_,dlen,_,_,_,rd⟩:=g2;obtain⟨_,_,_,_,_,_,r_S,d_S,r_Trip,d_Trip⟩:=t
 obtain⟨a0_Legs,a0_Off,a0_Change⟩:=a0;unfold ot at h;try dsimp only at h
 cbv;obtain⟨x1,hx1,h⟩:=ac h;obtain⟨x1_Places,x1_Rides⟩:=x1;try dsimp only at h
 refine ACall.mk _ _ rfl (hF _ _ _ (kW hg ht hx1)) (.inl rfl) (nb rfl) ?_;cbv;refine AStep.mk ⟨(dN ht (aq hg ht _)),(lp ht (aW hg ht _))⟩ ?_;cbv;obtain⟨x2,hx2,h⟩:=ak h;try dsimp only at h
 refine ACall.mk _ _ (by rw[show rd (d_S x1_Places) 0 (dlen (d_S x1_Places))=r_S x1_Places from fK hg ht (aq hg ht _),show rd (d_Trip x1_Rides) 0 (dlen (d_Trip x1_Rides))=r_Trip x1_Rides from mI hg ht (aW hg ht _)];try rfl) (hF _ _ _ (BA hg ht hx2)) (.inr rfl) (nb rfl) ?_
 cbv;obtain rfl:=Option.some.inj h;exact ARet.mk trivial hX.symm
def ir98:J:=js [jq 1 (.box 0),jm 2 (ki 0)] [1] (js [jf 3 0 1,jk 4 3,jq 5 (.len false 4),jf 6 1 1,jk 7 6,jq 8 (.len false 7),jb 9 .add .i 5 8,jm 2 9] [2] .ret)
def rv98:List RV:=[.t 2]
def qD (g:G) (t:TE) (a0:Belief):Int:=
 (g.wrap .i64 (g.add (g.llen (t.r_S a0.Places)) (g.llen (t.r_Trip a0.Rides))))
theorem BJ {g:G} {t:TE} {a0:Belief} {r:Int} (hg:g=G.real) (ht:t=TE.real) (h:qD g t a0=r):Fn Tryz.prog 98 [.g (Belief.rs t a0)] (.c (.r (.v (.int .i64 r)))):=by
 obtain⟨X,hX⟩:=aH (.c (.r (.v (.int .i64 r))):X);rw[←hX];refine aw (rvs:=rv98) (j:=ir98) Tryz.func98 rfl (by kernel_rfl) (nb rfl) (by kernel_rfl) af ?_;intro g2 F hg2 hF;obtain rfl:g2=g:=hg2.unique.trans hg.symm;clear hg2;obtain⟨_⟩:=g2;obtain⟨_⟩:=t
 obtain⟨a0_Places,a0_Rides⟩:=a0;unfold qD at h;try dsimp only at h
 cbv;subst h;exact ARet.mk trivial hX.symm
def ir52:J:=js [jq 4 (.box 0),jm 8 kf] [1,2,3,4] (js [jl 9 3 4,jm 10 1,jm 11 2,jm 12 3,jc 13 47 [9,10,11,12],jc 14 98 [13],jb 15 .eql .i 14 (ki 1),jm 8 15] [8] .ret)
def rv52:List RV:=[.t 8]
def mW (g:G) (t:TE) (a0:Network) (a1:List Scan) (a2:Int) (a3:Int):Option Bool:=
 cl (jV g t a0 a1 a2 a3) fun x1=>
 lP (qD g t x1) fun x2=>
 some (g.eq x2 1)
theorem Ab {g:G} {t:TE} {a0:Network} {a1:List Scan} {a2:Int} {a3:Int} {r:Bool} (hg:g=G.real) (ht:t=TE.real) (h:mW g t a0 a1 a2 a3=some r):Fn Tryz.prog 52 [.g (Network.rs t a0),.c (.s 6 (t.r_Scan a1)),.c (.v (.int .i64 a2)),.c (.v (.int .i64 a3))] (.c (.r (.v (.bool r)))):=by
 obtain⟨X,hX⟩:=aH (.c (.r (.v (.bool r))):X);rw[←hX];refine aw (rvs:=rv52) (j:=ir52) Tryz.func52 rfl (by kernel_rfl) (nb rfl) (by kernel_rfl) af ?_;intro g2 F hg2 hF;obtain rfl:g2=g:=hg2.unique.trans hg.symm;clear hg2;obtain⟨_,_,_,_,_,_,_,_,_,_,_,_,_,_,_,_,_,_,_,_,_,_,_,_,dlen,_,_,_,rd⟩:=g2;obtain⟨_,_,_,_,_,_,r_S,d_S,r_Trip,d_Trip⟩:=t
 obtain⟨a0_Legs,a0_Off,a0_Change⟩:=a0;unfold mW at h;try dsimp only at h
 cbv;obtain⟨x1,hx1,h⟩:=ac h;obtain⟨x1_Places,x1_Rides⟩:=x1;try dsimp only at h
 refine ACall.mk _ _ rfl (hF _ _ _ (qP hg ht hx1)) (.inl rfl) (nb rfl) ?_;cbv;refine AStep.mk ⟨(dN ht (aq hg ht _)),(lp ht (aW hg ht _))⟩ ?_;cbv;obtain⟨x2,hx2,h⟩:=ak h;try dsimp only at h
 refine ACall.mk _ _ (by rw[show rd (d_S x1_Places) 0 (dlen (d_S x1_Places))=r_S x1_Places from fK hg ht (aq hg ht _),show rd (d_Trip x1_Rides) 0 (dlen (d_Trip x1_Rides))=r_Trip x1_Rides from mI hg ht (aW hg ht _)];try rfl) (hF _ _ _ (BJ hg ht hx2)) (.inr rfl) (nb rfl) ?_
 cbv;obtain rfl:=Option.some.inj h;exact ARet.mk trivial hX.symm
def ir55:J:=js [jq 5 (.box 0),jq 10 (.mv (.k (.c (.n 1))))] [1,2,3,4,5] (js [jq 14 (.bsl 1 []),jm 11 14] [1,2,3,4,5,11] (.seq (js [jl 15 3 5,jm 16 1,jm 17 2,jm 18 4,jc 19 48 [15,16,17,18],jq 20 (.fld false 0 1 19),jq 21 (.len false 20),jm 22 (ki 0)] [1,3,4,5,11,20,21,22] (.bl 0 (js [jb 23 .lss .i 22 21] [1,3,4,5,11,20,21,22,23] (.seq (.cond 23 .skip (.exit 0)) (.seq (.block 1 (js [ja 24 1 20 22,jk 25 24,jm 13 25] [1,3,4,5,11,13,20,21,22] (js [jl 26 3 5,jm 27 1,jm 28 3,jm 29 4,jm 30 13,jc 31 43 [26,27,28,29,30]] [1,3,4,5,11,13,20,21,22,31] (.cond 31 (.reg none [jm 32 11,jm 33 13,jq 34 (.bsl 1 [33]),jq 35 (.app 1 16 true 32 34),jm 11 35] [1,3,4,5,11,20,21,22]) .skip)))) (.reg none [jb 36 .add .i 22 (ki 1),jm 22 36] [1,3,4,5,11,20,21,22])))))) (js [jm 37 11,jm 10 37] [10] .ret)))
def rv55:List RV:=[.t 10]
def gj (g:G) (t:TE) (a0:Network) (a1:List Scan) (a3:Int) (a4:Int) (x1:Belief):Nat→Int→List ByteArray→Option (List ByteArray)
 |0,v1,w1=>
  some w1
 |n1+1,v1,w1=>
  gt x1.Places (g.nat v1) fun x2=>
  cl (ll g t a0 a1 a3 a4 x2) fun x3=>
  br x3
  (
   lP ([x2]) fun(l2:List ByteArray)=>
   gd (((w1.length+l2.length)*16≤70368744177664))<|
   lP (w1++l2) fun(l3:List ByteArray)=>
   gj g t a0 a1 a3 a4 x1 n1 (g.wrap .i64 (g.add v1 1)) l3)
  (
   gj g t a0 a1 a3 a4 x1 n1 (g.wrap .i64 (g.add v1 1)) w1)
def oM (g:G) (t:TE) (a0:Network) (a1:List Scan) (a2:Int) (a3:Int) (a4:Int):Option (List ByteArray):=
 lP ([]) fun(l1:List ByteArray)=>
 cl (gR g t a0 a1 a2 a4) fun x1=>
 gd (((g.int (g.dlen (t.d_S x1.Places)))≤9223372036854775807))<|
 cl (gj g t a0 a1 a3 a4 x1 (ay 0 (g.int (g.dlen (t.d_S x1.Places)))) 0 l1) fun y1=>
 some y1
theorem uQ {g:G} {t:TE} {a0:Network} {a1:List Scan} {a2:Int} {a3:Int} {a4:Int} {r:List ByteArray} (hg:g=G.real) (ht:t=TE.real) (h:oM g t a0 a1 a2 a3 a4=some r):Fn Tryz.prog 55 [.g (Network.rs t a0),.c (.s 6 (t.r_Scan a1)),.c (.v (.int .i64 a2)),.c (.v (.int .i64 a3)),.c (.v (.int .i64 a4))] (.c (.o 1 (t.d_S r))):=by
 obtain⟨X,hX⟩:=aH (.c (.o 1 (t.d_S r)):X);rw[←hX];refine aw (rvs:=rv55) (j:=ir55) Tryz.func55 rfl (by kernel_rfl) (nb rfl) (by kernel_rfl) af ?_;intro g2 F hg2 hF;obtain rfl:g2=g:=hg2.unique.trans hg.symm;clear hg2;obtain⟨wrap,lt,_,_,_,_,_,_,_,_,_,_,int,add,_,_,_,_,_,_,_,_,_,_,dlen⟩:=g2;obtain⟨r_Leg,_,r_I64,_,r_Scan,_,_,d_S⟩:=t
 obtain⟨a0_Legs,a0_Off,a0_Change⟩:=a0;unfold oM at h;try dsimp only at h
 cbv;obtain⟨l1,hl1,h⟩:=ak h;try dsimp only at h
 refine ANew.mk (d_S l1) (dlen (d_S l1)) (by rw[←hl1];exact jG hg ht []) (by rw[←hl1];exact gD hg ht []) ?_;cbv;obtain⟨x1,hx1,h⟩:=ac h;obtain⟨x1_Places,x1_Rides⟩:=x1;try dsimp only at h
 refine ACall.mk _ _ rfl (hF _ _ _ (kW hg ht hx1)) (.inl rfl) (nb rfl) ?_;cbv;obtain⟨hB1,h⟩:=al h;obtain⟨o1,ho1,h⟩:=ac h;try dsimp only at h
 try rw[hg] at ho1
 try rw[ht] at ho1
 refine ABL.mk {p:Nat×Int×List ByteArray//p.1=ay p.2.1 (int (dlen (d_S x1_Places)))∧0≤p.2.1∧gj G.real TE.real (Network.mk a0_Legs a0_Off a0_Change) a1 a3 a4 (Belief.mk x1_Places x1_Rides) p.1 p.2.1 p.2.2=some o1} (fun⟨⟨n1,v1,w1⟩,_⟩=>({sl:=[(1,.c (.r (.s 6 (r_Scan a1)))),(3,.c (.r (.v (.int .i64 a3)))),(4,.c (.r (.v (.int .i64 a4)))),(5,.c (.p 0 3 0 0)),(11,.c (.f 1 1 0 (dlen (d_S w1)))),(20,.c (.f 2 1 0 (dlen (d_S x1_Places)))),(21,.c (.r (.v (.int .i64 (int (dlen (d_S x1_Places))))))),(22,.c (.r (.v (.int .i64 v1))))],tab:=[(0,some (.foc 3 [] [.r (.s 6 (r_Leg a0_Legs)),.r (.s 1 (r_I64 a0_Off)),.r (.v (.int .i64 a0_Change))] [])),(1,some (.arr 1 (d_S w1))),(2,some (.arr 1 (d_S x1_Places)))]}:St)) 3 (fun p=>p.1.1) ⟨(ay 0 (int (dlen (d_S x1_Places))),0,l1),rfl,Int.le_refl _,ho1⟩ (List ByteArray) (fun y1=>({sl:=[(11,.c (.f 0 1 0 (dlen (d_S y1))))],tab:=[(0,some (.arr 1 (d_S y1)))]}:St)) 1 (fun y=>o1=y) ?_ ?_ ?_
 ·refine Wk.of [(0,some 0),(1,some 32),(2,some 128)] rfl rfl ?_ ?_
  ·cbv;all_goals exact⟨⟨_,rfl,rfl⟩,⟨_,rfl,rfl⟩,⟨_,rfl,rfl⟩,⟨_,rfl,rfl⟩,⟨_,rfl,rfl⟩,⟨_,rfl,rfl⟩,⟨_,rfl,rfl⟩,⟨_,rfl,rfl⟩,trivial⟩
  cbv;all_goals exact⟨⟨_,rfl,_,rfl,rfl,rfl,rfl,trivial⟩,⟨_,rfl,rfl⟩,⟨_,rfl,rfl⟩,trivial⟩
 ·rintro⟨⟨n1,v1,w1⟩,hn1,hi1,h_1⟩ hq1;try dsimp only at hn1 hi1 h_1
  clear hq1;cbv;rcases n1 with _|n1
  ·have hb1:lt v1 (int (dlen (d_S x1_Places)))=false:=bu hg hn1;rw[gj] at h_1;try rw[←hg] at h_1
   try rw[←ht] at h_1
   try dsimp only at h_1
   rw[hb1];cbv;refine⟨w1,Wk.of [(0,some 1)] rfl rfl ?_ ?_,(Option.some.inj h_1).symm⟩
   ·cbv;all_goals exact⟨⟨_,rfl,rfl⟩,trivial⟩
   cbv;all_goals exact⟨⟨_,rfl,rfl⟩,trivial⟩
  have hb1:lt v1 (int (dlen (d_S x1_Places)))=true:=bF hg hn1;have hl1:=d8 hn1;have hs1:=cM hg hn1 hi1 hB1 (by decide);rw[gj] at h_1;try rw[←hg] at h_1
  try rw[←ht] at h_1
  try dsimp only at h_1
  rw[hb1];cbv;refine AStep.mk (dR hg hi1 hl1) ?_;cbv;obtain⟨x2,hx2,h_1⟩:=aE h_1;try dsimp only at h_1
  refine AGet.mk _ (g9 hg ht hx2) ?_;cbv;obtain⟨x3,hx3,h_1⟩:=ac h_1;try dsimp only at h_1
  refine ACall.mk _ _ rfl (hF _ _ _ (rX hg ht hx3)) (.inl rfl) (nb rfl) ?_;cbv
  cases hb2:x3
  ·rw[aa hb2] at h_1;cbv;try rw[hg] at h_1
   try rw[ht] at h_1
   refine⟨⟨(n1,(wrap .i64 (add v1 1)),w1),hs1.1,hs1.2,h_1⟩,Wk.of [(0,some 0),(1,some 1),(2,some 2)] rfl rfl ?_ ?_,Nat.lt_succ_self _⟩
   ·cbv;all_goals exact⟨⟨_,rfl,rfl⟩,⟨_,rfl,rfl⟩,⟨_,rfl,rfl⟩,⟨_,rfl,rfl⟩,⟨_,rfl,rfl⟩,⟨_,rfl,rfl⟩,⟨_,rfl,rfl⟩,⟨_,rfl,rfl⟩,trivial⟩
   cbv;all_goals exact⟨⟨_,rfl,_,rfl,rfl,rfl,rfl,trivial⟩,⟨_,rfl,rfl⟩,⟨_,rfl,rfl⟩,trivial⟩
  rw[ab hb2] at h_1;cbv;obtain⟨l2,hl2,h_1⟩:=ak h_1;try dsimp only at h_1
  refine ANew.mk (d_S l2) (dlen (d_S l2)) (by rw[←hl2];exact jG hg ht [x2]) (by rw[←hl2];exact gD hg ht [x2]) ?_;cbv;obtain⟨hc1,h_1⟩:=al h_1;refine AStep.mk ⟨⟨rfl,(aq hg ht _)⟩,(dF hg ht (aq hg ht _) rfl hc1)⟩ ?_;cbv;obtain⟨l3,hl3,h_1⟩:=ak h_1;try dsimp only at h_1
  refine ANew.mk (d_S l3) (dlen (d_S l3)) (by rw[←hl3];exact kr hg ht (aq hg ht _) rfl) (by rw[←hl3];exact gY hg ht (aq hg ht _) rfl) ?_;cbv;try rw[hg] at h_1
  try rw[ht] at h_1
  refine⟨⟨(n1,(wrap .i64 (add v1 1)),l3),hs1.1,hs1.2,h_1⟩,Wk.of [(0,some 0),(1,some 211),(2,some 2)] rfl rfl ?_ ?_,Nat.lt_succ_self _⟩
  ·cbv;all_goals exact⟨⟨_,rfl,rfl⟩,⟨_,rfl,rfl⟩,⟨_,rfl,rfl⟩,⟨_,rfl,rfl⟩,⟨_,rfl,rfl⟩,⟨_,rfl,rfl⟩,⟨_,rfl,rfl⟩,⟨_,rfl,rfl⟩,trivial⟩
  cbv;all_goals exact⟨⟨_,rfl,_,rfl,rfl,rfl,rfl,trivial⟩,⟨_,rfl,rfl⟩,⟨_,rfl,rfl⟩,trivial⟩
 rintro y1 hy1;replace hy1:=hy1.symm;subst hy1;try dsimp only[lr,lrL,lrp,aR] at h
 cbv;obtain rfl:=Option.some.inj h;exact ARet.mk ⟨rfl,(aq hg ht _)⟩ hX.symm
def ir54:J:=js [jq 5 (.box 0),jq 10 (.mv (.k (.c (.n 1))))] [1,2,3,4,5] (js [jq 14 (.bsl 1 []),jm 11 14] [1,2,3,4,5,11] (js [jl 15 3 5,jc 16 78 [15],jm 12 16] [1,2,3,4,5,11,12] (.seq (js [jm 13 (ki 0)] [1,2,3,4,5,11,12,13] (.bl 0 (.seq (js [jm 17 13,jm 18 12,jq 19 (.len false 18),jb 20 .lss .i 17 19] [1,2,3,4,5,11,12,13,20] (.cond 20 .skip (.exit 0))) (.seq (.block 1 (.seq (.reg (some [[],[],[],[],[],[],[4,5],[4,5,6],[0,1,2,3,4,5,6,7],[0,1,2,3,4,5,6,7,8],[0,1,2,3,4,5,6,7,8,9],[0,1,2,3,4,5,6,7,8,9],[0,1,2,3,4,5,6,7,8,9],[0,1,2,3,4,5,6,7,8,9],[0,1,2,3,4,5,6,7,8,9],[0,1,2,3,4,5,6,7,8,9],[0,1,2,3,4,5,6,7,8,9,14,15],[0,1,2,3,4,5,6,7,8,9,14,15,16],[0,1,2,3,4,5,6,7,8,9,10,11,12,13,14,15,16,17],[0,1,2,3,4,5,6,7,8,9,10,11,12,13,14,15,16,17,18]]) [jl 23 3 5,jm 24 1,jm 25 2,jm 26 4,jm 27 12,jm 28 13,ja 29 1 27 28,jk 30 29,jc 31 42 [23,24,25,26,30],jm 32 31,ju 33 32 (.ld true 3 5),ju 34 32 (.mv 1),ju 35 32 (.mv 3),ju 36 32 (.mv 4),ju 37 32 (.mv 12),ju 38 32 (.mv 13),ju 39 32 (.ia 1 37 38),ju 40 32 (.ld false 1 39),ju 41 32 (.call 42 true [33,34,35,36,40]),jq 42 (.pick 32 41 kf)] [1,2,3,4,5,11,12,13,42]) (.cond 42 (.reg none [jm 43 11,jm 44 12,jm 45 13,ja 46 1 44 45,jk 47 46,jq 48 (.bsl 1 [47]),jq 49 (.app 1 16 true 43 48),jm 11 49] [1,2,3,4,5,11,12,13]) .skip))) (.reg none [jm 21 13,jb 22 .add .i 21 (ki 1),jm 13 22] [1,2,3,4,5,11,12,13]))))) (js [jm 50 11,jm 10 50] [10] .ret))))
def rv54:List RV:=[.t 10]
def fq (g:G) (t:TE) (a0:Network) (a1:List Scan) (a2:Int) (a3:Int) (a4:Int) (x1:List ByteArray):Nat→Int→List ByteArray→Option (List ByteArray)
 |0,v1,w1=>
  some w1
 |n1+1,v1,w1=>
  gt x1 (g.nat v1) fun x2=>
  cl (jh g t a0 a1 a2 a4 x2) fun x3=>
  br x3
  (
   cl (jh g t a0 a1 a3 a4 x2) fun x4=>
   br x4
   (
    lP ([x2]) fun(l2:List ByteArray)=>
    gd (((w1.length+l2.length)*16≤70368744177664))<|
    lP (w1++l2) fun(l3:List ByteArray)=>
    fq g t a0 a1 a2 a3 a4 x1 n1 (g.wrap .i64 (g.add v1 1)) l3)
   (
    fq g t a0 a1 a2 a3 a4 x1 n1 (g.wrap .i64 (g.add v1 1)) w1))
  (
   fq g t a0 a1 a2 a3 a4 x1 n1 (g.wrap .i64 (g.add v1 1)) w1)
def qS (g:G) (t:TE) (a0:Network) (a1:List Scan) (a2:Int) (a3:Int) (a4:Int):Option (List ByteArray):=
 lP ([]) fun(l1:List ByteArray)=>
 cl (dU g t a0) fun x1=>
 gd (((g.int (g.dlen (t.d_S x1)))≤9223372036854775807))<|
 cl (fq g t a0 a1 a2 a3 a4 x1 (ay 0 (g.int (g.dlen (t.d_S x1)))) 0 l1) fun y1=>
 some y1
theorem B7 {g:G} {t:TE} {a0:Network} {a1:List Scan} {a2:Int} {a3:Int} {a4:Int} {r:List ByteArray} (hg:g=G.real) (ht:t=TE.real) (h:qS g t a0 a1 a2 a3 a4=some r):Fn Tryz.prog 54 [.g (Network.rs t a0),.c (.s 6 (t.r_Scan a1)),.c (.v (.int .i64 a2)),.c (.v (.int .i64 a3)),.c (.v (.int .i64 a4))] (.c (.o 1 (t.d_S r))):=by
 obtain⟨X,hX⟩:=aH (.c (.o 1 (t.d_S r)):X);rw[←hX];refine aw (rvs:=rv54) (j:=ir54) Tryz.func54 rfl (by kernel_rfl) (nb rfl) (by kernel_rfl) af ?_;intro g2 F hg2 hF;obtain rfl:g2=g:=hg2.unique.trans hg.symm;clear hg2;obtain⟨wrap,lt,_,_,_,_,_,_,_,_,_,_,int,add,_,_,_,_,_,_,_,_,_,_,dlen⟩:=g2;obtain⟨r_Leg,_,r_I64,_,r_Scan,_,_,d_S⟩:=t
 obtain⟨a0_Legs,a0_Off,a0_Change⟩:=a0;unfold qS at h;try dsimp only at h
 cbv;obtain⟨l1,hl1,h⟩:=ak h;try dsimp only at h
 refine ANew.mk (d_S l1) (dlen (d_S l1)) (by rw[←hl1];exact jG hg ht []) (by rw[←hl1];exact gD hg ht []) ?_;cbv;obtain⟨x1,hx1,h⟩:=ac h;try dsimp only at h
 refine ACall.mk _ _ rfl (hF _ _ _ (fg hg ht hx1)) (.inl rfl) (nb rfl) ?_;cbv;obtain⟨hB1,h⟩:=al h;obtain⟨o1,ho1,h⟩:=ac h;try dsimp only at h
 try rw[hg] at ho1
 try rw[ht] at ho1
 refine ABL.mk {p:Nat×Int×List ByteArray//p.1=ay p.2.1 (int (dlen (d_S x1)))∧0≤p.2.1∧fq G.real TE.real (Network.mk a0_Legs a0_Off a0_Change) a1 a2 a3 a4 x1 p.1 p.2.1 p.2.2=some o1} (fun⟨⟨n1,v1,w1⟩,_⟩=>({sl:=[(1,.c (.r (.s 6 (r_Scan a1)))),(2,.c (.r (.v (.int .i64 a2)))),(3,.c (.r (.v (.int .i64 a3)))),(4,.c (.r (.v (.int .i64 a4)))),(5,.c (.p 0 3 0 0)),(11,.c (.f 1 1 0 (dlen (d_S w1)))),(12,.c (.f 2 1 0 (dlen (d_S x1)))),(13,.c (.r (.v (.int .i64 v1))))],tab:=[(0,some (.foc 3 [] [.r (.s 6 (r_Leg a0_Legs)),.r (.s 1 (r_I64 a0_Off)),.r (.v (.int .i64 a0_Change))] [])),(1,some (.arr 1 (d_S w1))),(2,some (.arr 1 (d_S x1)))]}:St)) 3 (fun p=>p.1.1) ⟨(ay 0 (int (dlen (d_S x1))),0,l1),rfl,Int.le_refl _,ho1⟩ (List ByteArray) (fun y1=>({sl:=[(11,.c (.f 0 1 0 (dlen (d_S y1))))],tab:=[(0,some (.arr 1 (d_S y1)))]}:St)) 1 (fun y=>o1=y) ?_ ?_ ?_
 ·refine Wk.of [(0,some 0),(1,some 32),(2,some 80)] rfl rfl ?_ ?_
  ·cbv;all_goals exact⟨⟨_,rfl,rfl⟩,⟨_,rfl,rfl⟩,⟨_,rfl,rfl⟩,⟨_,rfl,rfl⟩,⟨_,rfl,rfl⟩,⟨_,rfl,rfl⟩,⟨_,rfl,rfl⟩,⟨_,rfl,rfl⟩,trivial⟩
  cbv;all_goals exact⟨⟨_,rfl,_,rfl,rfl,rfl,rfl,trivial⟩,⟨_,rfl,rfl⟩,⟨_,rfl,rfl⟩,trivial⟩
 ·rintro⟨⟨n1,v1,w1⟩,hn1,hi1,h_1⟩ hq1;try dsimp only at hn1 hi1 h_1
  clear hq1;cbv;rcases n1 with _|n1
  ·have hb1:lt v1 (int (dlen (d_S x1)))=false:=bu hg hn1;rw[fq] at h_1;try rw[←hg] at h_1
   try rw[←ht] at h_1
   try dsimp only at h_1
   rw[hb1];cbv;refine⟨w1,Wk.of [(0,some 1)] rfl rfl ?_ ?_,(Option.some.inj h_1).symm⟩
   ·cbv;all_goals exact⟨⟨_,rfl,rfl⟩,trivial⟩
   cbv;all_goals exact⟨⟨_,rfl,rfl⟩,trivial⟩
  have hb1:lt v1 (int (dlen (d_S x1)))=true:=bF hg hn1;have hl1:=d8 hn1;have hs1:=cM hg hn1 hi1 hB1 (by decide);rw[fq] at h_1;try rw[←hg] at h_1
  try rw[←ht] at h_1
  try dsimp only at h_1
  rw[hb1];cbv;refine AStep.mk (dR hg hi1 hl1) ?_;cbv;obtain⟨x2,hx2,h_1⟩:=aE h_1;try dsimp only at h_1
  refine AGet.mk _ (g9 hg ht hx2) ?_;cbv;obtain⟨x3,hx3,h_1⟩:=ac h_1;try dsimp only at h_1
  refine ACall.mk _ _ rfl (hF _ _ _ (lT hg ht hx3)) (.inl rfl) (nb rfl) ?_;cbv
  cases hb2:x3
  ·rw[aa hb2] at h_1;cbv;iterate 9 try(rw[hb2];cbv)
   try rw[hg] at h_1
   try rw[ht] at h_1
   refine⟨⟨(n1,(wrap .i64 (add v1 1)),w1),hs1.1,hs1.2,h_1⟩,Wk.of [(0,some 0),(1,some 1),(2,some 2)] rfl rfl ?_ ?_,Nat.lt_succ_self _⟩
   ·cbv;all_goals exact⟨⟨_,rfl,rfl⟩,⟨_,rfl,rfl⟩,⟨_,rfl,rfl⟩,⟨_,rfl,rfl⟩,⟨_,rfl,rfl⟩,⟨_,rfl,rfl⟩,⟨_,rfl,rfl⟩,⟨_,rfl,rfl⟩,trivial⟩
   cbv;all_goals exact⟨⟨_,rfl,_,rfl,rfl,rfl,rfl,trivial⟩,⟨_,rfl,rfl⟩,⟨_,rfl,rfl⟩,trivial⟩
  rw[ab hb2] at h_1;cbv;iterate 6 try(rw[hb2];cbv)
  refine AStep.mk (dR hg hi1 hl1) ?_;cbv;try(rw[hb2];cbv)
  refine AGet.mk _ (g9 hg ht hx2) ?_;cbv;try(rw[hb2];cbv)
  obtain⟨x4,hx4,h_1⟩:=ac h_1;try dsimp only at h_1
  refine ACall.mk _ _ rfl (hF _ _ _ (lT hg ht hx4)) (.inl rfl) (nb rfl) ?_;cbv;try(rw[hb2];cbv)
  cases hb3:x4
  ·rw[aa hb3] at h_1;cbv;try rw[hg] at h_1
   try rw[ht] at h_1
   refine⟨⟨(n1,(wrap .i64 (add v1 1)),w1),hs1.1,hs1.2,h_1⟩,Wk.of [(0,some 0),(1,some 1),(2,some 2)] rfl rfl ?_ ?_,Nat.lt_succ_self _⟩
   ·cbv;all_goals exact⟨⟨_,rfl,rfl⟩,⟨_,rfl,rfl⟩,⟨_,rfl,rfl⟩,⟨_,rfl,rfl⟩,⟨_,rfl,rfl⟩,⟨_,rfl,rfl⟩,⟨_,rfl,rfl⟩,⟨_,rfl,rfl⟩,trivial⟩
   cbv;all_goals exact⟨⟨_,rfl,_,rfl,rfl,rfl,rfl,trivial⟩,⟨_,rfl,rfl⟩,⟨_,rfl,rfl⟩,trivial⟩
  rw[ab hb3] at h_1;cbv;refine AStep.mk (dR hg hi1 hl1) ?_;cbv;refine AGet.mk _ (g9 hg ht hx2) ?_;cbv;obtain⟨l2,hl2,h_1⟩:=ak h_1;try dsimp only at h_1
  refine ANew.mk (d_S l2) (dlen (d_S l2)) (by rw[←hl2];exact jG hg ht [x2]) (by rw[←hl2];exact gD hg ht [x2]) ?_;cbv;obtain⟨hc1,h_1⟩:=al h_1;refine AStep.mk ⟨⟨rfl,(aq hg ht _)⟩,(dF hg ht (aq hg ht _) rfl hc1)⟩ ?_;cbv;obtain⟨l3,hl3,h_1⟩:=ak h_1;try dsimp only at h_1
  refine ANew.mk (d_S l3) (dlen (d_S l3)) (by rw[←hl3];exact kr hg ht (aq hg ht _) rfl) (by rw[←hl3];exact gY hg ht (aq hg ht _) rfl) ?_;cbv;try rw[hg] at h_1
  try rw[ht] at h_1
  refine⟨⟨(n1,(wrap .i64 (add v1 1)),l3),hs1.1,hs1.2,h_1⟩,Wk.of [(0,some 0),(1,some 483),(2,some 2)] rfl rfl ?_ ?_,Nat.lt_succ_self _⟩
  ·cbv;all_goals exact⟨⟨_,rfl,rfl⟩,⟨_,rfl,rfl⟩,⟨_,rfl,rfl⟩,⟨_,rfl,rfl⟩,⟨_,rfl,rfl⟩,⟨_,rfl,rfl⟩,⟨_,rfl,rfl⟩,⟨_,rfl,rfl⟩,trivial⟩
  cbv;all_goals exact⟨⟨_,rfl,_,rfl,rfl,rfl,rfl,trivial⟩,⟨_,rfl,rfl⟩,⟨_,rfl,rfl⟩,trivial⟩
 rintro y1 hy1;replace hy1:=hy1.symm;subst hy1;try dsimp only[lr,lrL,lrp,aR] at h
 cbv;obtain rfl:=Option.some.inj h;exact ARet.mk ⟨rfl,(aq hg ht _)⟩ hX.symm
end Go.Vs
