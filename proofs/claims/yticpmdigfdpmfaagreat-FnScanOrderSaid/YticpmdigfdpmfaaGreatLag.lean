/- Part of the proofs of this seat's laws: Lag. No condition. -/
import Derived.Test.YticpmdigfdpmfaaGreatTy
import Derived.Test.YticpmdigfdpmfaaGreatTIRall
import Derived.Test.YticpmdigfdpmfaaGreatLaa
import Derived.Test.YticpmdigfdpmfaaGreatLab
import Derived.Test.YticpmdigfdpmfaaGreatLad
import Derived.Test.YticpmdigfdpmfaaGreatLae
set_option linter.unusedVariables false
set_option linter.unusedSimpArgs false
set_option linter.unusedSectionVars false
namespace Go.Vs
set_option maxRecDepth 100000
def ir5:J:=js [jm 2 kf] [0] (.seq (js [jm 11 0,jc 12 11 [11]] [0,12] (.cond 12 (js [jm 2 kt] [2] .ret) .skip)) (js [jm 14 0,jq 15 (.call 34 false [14]),jm 13 15,jq 16 (.ext 0 13),jq 17 (.ext 1 13),jq 18 (.ext 2 13),jq 3 (.alloc [.n 6,.n 1,.r (.v (.int .i64 0))]),jp (.st 3 3 16),jm 4 17,jm 5 18] [3,4,5] (js [jq 19 (.bsl 6 []),jm 6 19] [3,4,5,6] (.seq (js [jm 20 4,jq 21 (.len false 20),jb 22 .sub .i 21 (ki 1),jm 7 22] [3,4,5,6,7] (.bl 0 (.seq (js [jm 23 7,jb 24 .geq .i 23 (ki 0)] [3,4,5,6,7,24] (.cond 24 .skip (.exit 0))) (.seq (.block 1 (.reg none [jm 27 6,jm 28 4,jm 29 7,ja 30 6 28 29,jl 31 6 30,jq 32 (.bsl 6 [31]),jq 33 (.app 6 56 true 27 32),jm 6 33] [3,4,5,6,7])) (.reg none [jm 25 7,jb 26 .sub .i 25 (ki 1),jm 7 26] [3,4,5,6,7]))))) (js [jq 34 (.bsl 6 []),jm 35 6,jq 36 (.app 6 56 false 34 35),jm 37 4,jq 38 (.app 6 56 false 36 37),jm 8 38] [3,4,5,6,8] (.seq (js [jm 39 8,jq 40 (.len false 39),jb 41 .gtr .i 40 (ki 200)] [3,4,5,6,8,41] (.cond 41 (js [jm 2 kt] [2] .ret) .skip)) (js [jl 42 3 3,jm 43 4,jq 44 (.call 35 false [42,43]),jm 9 44] [3,4,5,6,8,9] (.seq (js [jm 45 9,jq 46 (.len false 45),jl 47 3 3,jm 48 4,jq 49 (.call 36 false [47,48]),jq 50 (.len false 49),jb 51 .neq .i 46 50] [3,4,5,6,8,9,51] (.cond 51 (js [jm 2 kf] [2] .ret) .skip)) (.seq (js [jm 10 (ki 1)] [3,4,5,6,8,9,10] (.bl 2 (.seq (js [jm 52 10,jm 53 9,jq 54 (.len false 53),jb 55 .lss .i 52 54] [3,4,5,6,8,9,10,55] (.cond 55 .skip (.exit 2))) (.seq (.block 3 (.seq (.reg (some [[],[],[1],[0,1,2],[0,1,2,3],[],[],[5,6],[5,6,7],[0,1,2,3,4,5,6,7,8],[0,1,2,3,4,5,6,7,8,9]]) [jm 58 9,jm 59 10,jb 60 .sub .i 59 (ki 1),ja 61 6 58 60,jl 62 6 61,jm 63 9,jm 64 10,ja 65 6 63 64,jl 66 6 65,jc 67 37 [62,66],jb 68 .geq .i 67 (ki 0)] [3,4,5,6,8,9,10,68]) (.cond 68 (js [jm 2 kf] [2] .ret) .skip))) (.reg none [jm 56 10,jb 57 .add .i 56 (ki 1),jm 10 57] [3,4,5,6,8,9,10]))))) (.seq (.reg (some [[],[],[],[1,2],[0,1,2,3],[0,1,2,3,4],[0,1,2,3,4,5],[0,1,2,3,4,5],[0,1,2,3,4,5],[0,1,2,3,4,5,7,8],[0,1,2,3,4,5,6,7,8,9],[0,1,2,3,4,5,6,7,8,9,10],[0,1,2,3,4,5,6,7,8,9,10,11],[0,1,2,3,4,5,6,7,8,9,10,11,12],[0,1,2,3,4,5,6,7,8,9,10,11,12],[0,1,2,3,4,5,6,7,8,9,10,11,12],[0,1,2,3,4,5,6,7,8,9,10,11,12,13,14,15],[0,1,2,3,4,5,6,7,8,9,10,11,12],[0,1,2,3,4,5,6,7,8,9,10,11,12],[0,1,2,3,4,5,6,7,8,9,10,11,12],[0,1,2,3,4,5,6,7,8,9,10,11,12,13,14,15,16,17,18,19],[0,1,2,3,4,5,6,7,8,9,10,11,12,13,14,15,16,17,18,19,20],[0,1,2,3,4,5,6,7,8,9,10,11,12,13,14,15,16,17,18,19,20,21],[0,1,2,3,4,5,6,7,8,9,10,11,12,13,14,15,16,17,18,19,20,21,22],[0,1,2,3,4,5,6,7,8,9,10,11,12,13,14,15,16,17,18,19,20,21,22,23],[0,
 1,2,3,4,5,6,7,8,9,10,11,12,13,14,15,16,17,18,19,20,21,22,23],[0,1,2,3,4,5,6,7,8,9,10,11,12,13,14,15,16,17,18,19,20,21,22,23],[0,1,2,3,4,5,6,7,8,9,10,11,12,13,14,15,16,17,18,19,20,21,22,23,24,25,26],[0,1,2,3,4,5,6,7,8,9,10,11,12,13,14,15,16,17,18,19,20,21,22,23],[0,1,2,3,4,5,6,7,8,9,10,11,12,13,14,15,16,17,18,19,20,21,22,23],[0,1,2,3,4,5,6,7,8,9,10,11,12,13,14,15,16,17,18,19,20,21,22,23],[0,1,2,3,4,5,6,7,8,9,10,11,12,13,14,15,16,17,18,19,20,21,22,23,24,25,26,27,28,29,30],[0,1,2,3,4,5,6,7,8,9,10,11,12,13,14,15,16,17,18,19,20,21,22,23,24,25,26,27,28,29,30,31],[0,1,2,3,4,5,6,7,8,9,10,11,12,13,14,15,16,17,18,19,20,21,22,23,24,25,26,27,28,29,30,31,32],[0,1,2,3,4,5,6,7,8,9,10,11,12,13,14,15,16,17,18,19,20,21,22,23,24,25,26,27,28,29,30,31,32,33]]) [jm 69 9,jl 70 3 3,jm 71 8,jq 72 (.call 35 false [70,71]),jc 73 20 [69,72],jm 74 73,ju 75 74 (.mv 9),ju 76 74 (.ld true 3 3),ju 77 74 (.mv 9),ju 78 74 (.call 35 false [76,77]),ju 79 74 (.call 20 true [75,78]),jq 80 (.pick 74 79 kf),jm 81 80,ju 82 81 (.ld true 3 3),ju 83 81 (.mv 4),ju 84 81 (.mv 5),ju 85 81 (.call 18 false [82,83,84]),ju 86 81 (.ld true 3 3),ju 87 81 (.mv 8),ju 88 81 (.mv 5),ju 89 81 (.call 18 false [86,87,88]),ju 90 81 (.call 20 true [85,89]),jq 91 (.pick 81 90 kf),jm 92 91,ju 93 92 (.ld true 3 3),ju 94 92 (.mv 4),ju 95 92 (.mv 5),ju 96 92 (.call 19 false [93,94,95]),ju 97 92 (.ld true 3 3),ju 98 92 (.mv 6),ju 99 92 (.mv 5),ju 100 92 (.call 19 false [97,98,99]),ju 101 92 (.call 38 true [96,100]),jq 102 (.pick 92 101 kf),jm 2 102] [2]) .ret))))))))))
def rv5:List RV:=[.t 2]
open Go.Proofs Go.IntWalk
set_option linter.unusedVariables false
set_option maxHeartbeats 4000000
def bj (g:G) (t:TE) (x4:List Scan):Nat→Int→Option (LR Bool Unit)
 |0,v2=>
  some (LR.out ())
 |n2+1,v2=>
  gd (((0:Int)≤(g.wrap .i64 (g.sub v2 1))))<|
  gt x4 (g.nat (g.wrap .i64 (g.sub v2 1))) fun x6=>
  gt x4 (g.nat v2) fun x7=>
  lP (bg g t (Scan.mk x6.Thing x6.At x6.Kind x6.Place (Trip.mk x6.Trip.Leg x6.Trip.Day)) (Scan.mk x7.Thing x7.At x7.Kind x7.Place (Trip.mk x7.Trip.Leg x7.Trip.Day))) fun x8=>
  br (g.le 0 x8)
  (
   some (LR.ret false))
  (
   bj g t x4 n2 (g.wrap .i64 (g.add v2 1)))
def bO (g:G) (t:TE) (x2:Network×(List Scan)×Int):Nat→List Scan→Int→Option (List Scan)
 |0,_,_=>none
 |n1+1,w1,v1=>
  br (g.le 0 v1)
  (
   gd (((0:Int)≤v1))<|
   gt x2.2.1 (g.nat v1) fun x3=>
   lP ([(Scan.mk x3.Thing x3.At x3.Kind x3.Place (Trip.mk x3.Trip.Leg x3.Trip.Day))]) fun(l2:List Scan)=>
   gd (((w1.length+l2.length)*56≤70368744177664))<|
   lP (w1++l2) fun(l3:List Scan)=>
   bO g t x2 n1 l3 (g.wrap .i64 (g.sub v1 1)))
  (
   some w1)
def fz (g:G) (t:TE) (a0:List Int):Option Bool:=
 lP (pw g t a0) fun x1=>
 br x1
 (
  some true)
 (
  cl (eF g t a0) fun x2=>
  lP ([]) fun(l1:List Scan)=>
  cl (bO g t x2 1000000000 l1 (g.wrap .i64 (g.sub (g.llen (t.r_Scan x2.2.1)) 1))) fun y1=>
  lP ([]) fun(l4:List Scan)=>
  gd (((l4.length+y1.length)*56≤70368744177664))<|
  lP (l4++y1) fun(l5:List Scan)=>
  gd (((l5.length+x2.2.1.length)*56≤70368744177664))<|
  lP (l5++x2.2.1) fun(l6:List Scan)=>
  br (g.lt 200 (g.int (g.dlen (t.d_Scan l6))))
  (
   some true)
  (
   cl (ea g t (Network.mk x2.1.Legs x2.1.Off x2.1.Change) x2.2.1) fun x4=>
   cl (fZ g t (Network.mk x2.1.Legs x2.1.Off x2.1.Change) x2.2.1) fun x5=>
   br (g.eq (g.llen (t.r_Scan x4)) (g.llen (t.r_Scan x5)))
   (
    gd (((g.llen (t.r_Scan x4))≤9223372036854775807))<|
    cl (bj g t x4 (ap 1 (g.llen (t.r_Scan x4))) 1) fun o2=>lr o2 fun y2=>
    cl (ea g t (Network.mk x2.1.Legs x2.1.Off x2.1.Change) l6) fun x9=>
    cl (iJ g t x4 x9) fun x10=>
    br x10
    (
     cl (ea g t (Network.mk x2.1.Legs x2.1.Off x2.1.Change) x4) fun x11=>
     cl (iJ g t x4 x11) fun x12=>
     br x12
     (
      cl (d7 g t (Network.mk x2.1.Legs x2.1.Off x2.1.Change) x2.2.1 x2.2.2) fun x13=>
      cl (d7 g t (Network.mk x2.1.Legs x2.1.Off x2.1.Change) l6 x2.2.2) fun x14=>
      cl (iJ g t x13 x14) fun x15=>
      br x15
      (
       cl (gb g t (Network.mk x2.1.Legs x2.1.Off x2.1.Change) x2.2.1 x2.2.2) fun x16=>
       cl (gb g t (Network.mk x2.1.Legs x2.1.Off x2.1.Change) y1 x2.2.2) fun x17=>
       cl (sr g t x16 x17) fun x18=>
       some x18)
      (
       some false))
     (
      some false))
    (
     some false))
   (
    some false)))
theorem qg {g:G} {t:TE} {a0:List Int} {r:Bool} (hg:g=G.real) (ht:t=TE.real) (h:fz g t a0=some r):Fn Tryz.prog 5 [.c (.s 1 (t.r_U8 a0))] (.c (.r (.v (.bool r)))):=by
 obtain⟨X,hX⟩:=aC (.c (.r (.v (.bool r))):X);rw[←hX];refine aA (rvs:=rv5) (j:=ir5) Tryz.func5 rfl (by kernel_rfl) (nb rfl) (by kernel_rfl) af ?_;intro g2 F hg2 hF;obtain rfl:g2=g:=hg2.unique.trans hg.symm;clear hg2;obtain⟨wrap,lt,le,eq,_,_,_,_,_,_,_,_,int,add,sub,_,_,_,_,_,_,llen,_,_,dlen,_,_,_,rd,rda⟩:=g2;obtain⟨_,_,r_Scan,d_Scan,r_Leg,d_Leg,r_I64,d_I64⟩:=t
 have hfr_Scan:∀l,dX (d_Scan l)=true:=yJ ht;have hrda_Scan:∀l,rda (d_Scan l)=r_Scan l:=lf hg ht;have hrda_Leg:∀l,rda (d_Leg l)=r_Leg l:=oA hg ht;have hfr_I64:∀l,dX (d_I64 l)=true:=t8 ht;have hrda_I64:∀l,rda (d_I64 l)=r_I64 l:=mc hg ht;unfold fz at h;try dsimp only at h
 cbv;obtain⟨x1,hx1,h⟩:=ah h;try dsimp only at h
 refine ACall.mk _ _ rfl (hF _ _ _ (uM hg ht hx1)) (.inl rfl) (nb rfl) ?_;cbv
 cases hb1:x1
 rotate_left
 ·rw[ab hb1] at h;cbv;obtain rfl:=Option.some.inj h;exact ARet.mk trivial hX.symm
 rw[aa hb1] at h;cbv;obtain⟨x2,hx2,h⟩:=ae h;obtain⟨⟨x2_1_Legs,x2_1_Off,x2_1_Change⟩,x2_2_1,x2_2_2⟩:=x2;try dsimp only at h
 refine ACallR.mk _ _ (.u [.g [.r (.s 6 (r_Leg x2_1_Legs)),.r (.s 1 (r_I64 x2_1_Off)),.r (.v (.int .i64 x2_1_Change))],.c (.r (.s 6 (r_Scan x2_2_1))),.c (.r (.v (.int .i64 x2_2_2)))]) rfl (hF _ _ _ (k8 hg ht hx2)) (.inl rfl) (nb rfl) (by cbv;(try simp only[hrda_I64,hrda_Leg,hrda_Scan])) ?_;cbv;obtain⟨l1,hl1,h⟩:=ah h;try dsimp only at h
 refine ANew.mk (d_Scan l1) (dlen (d_Scan l1)) (by rw[←hl1];exact aG hg ht []) (by rw[←hl1];exact ax hg ht []) ?_;cbv;obtain⟨o1,ho1,h⟩:=ae h;try dsimp only at h
 try rw[hg] at ho1
 try rw[ht] at ho1
 refine ABL.mk {p:Nat×(List Scan)×Int//bO G.real TE.real ((Network.mk x2_1_Legs x2_1_Off x2_1_Change),x2_2_1,x2_2_2) p.1 p.2.1 p.2.2=some o1} (fun⟨⟨n1,w1,v1⟩,_⟩=>({sl:=[(3,.c (.p 0 3 0 0)),(4,.c (.r (.s 6 (r_Scan x2_2_1)))),(5,.c (.r (.v (.int .i64 x2_2_2)))),(6,.c (.f 1 6 0 (dlen (d_Scan w1)))),(7,.c (.r (.v (.int .i64 v1))))],tab:=[(0,some (.foc 3 [] [.r (.s 6 (r_Leg x2_1_Legs)),.r (.s 1 (r_I64 x2_1_Off)),.r (.v (.int .i64 x2_1_Change))] [])),(1,some (.arr 6 (d_Scan w1)))]}:St)) 2 (fun p=>p.1.1) ⟨(1000000000,l1,(wrap .i64 (sub (llen (r_Scan x2_2_1)) 1))),ho1⟩ (List Scan) (fun y1=>({sl:=[(3,.c (.p 0 3 0 0)),(4,.c (.r (.s 6 (r_Scan x2_2_1)))),(5,.c (.r (.v (.int .i64 x2_2_2)))),(6,.c (.f 1 6 0 (dlen (d_Scan y1))))],tab:=[(0,some (.foc 3 [] [.r (.s 6 (r_Leg x2_1_Legs)),.r (.s 1 (r_I64 x2_1_Off)),.r (.v (.int .i64 x2_1_Change))] [])),(1,some (.arr 6 (d_Scan y1)))]}:St)) 2 (fun y=>o1=y) ?_ ?_ ?_
 ·refine Wk.of [(0,some 144),(1,some 208)] rfl rfl ?_ ?_
  ·cbv;all_goals exact⟨⟨_,rfl,rfl⟩,⟨_,rfl,rfl⟩,⟨_,rfl,rfl⟩,⟨_,rfl,rfl⟩,⟨_,rfl,rfl⟩,trivial⟩
  cbv;all_goals exact⟨⟨_,rfl,_,rfl,rfl,rfl,rfl,trivial⟩,⟨_,rfl,rfl⟩,trivial⟩
 ·rintro⟨⟨n1,w1,v1⟩,h_1⟩ hq1;try dsimp only at h_1
  clear hq1;rcases n1 with _|n1
  ·rw[bO] at h_1;cases h_1
  rw[bO] at h_1;try rw[←hg] at h_1
  try rw[←ht] at h_1
  try dsimp only at h_1
  cbv
  cases hb2:(le 0 v1)
  ·rw[aa hb2] at h_1;cbv;refine⟨w1,Wk.of [(0,some 0),(1,some 1)] rfl rfl ?_ ?_,(Option.some.inj h_1).symm⟩
   ·cbv;all_goals exact⟨⟨_,rfl,rfl⟩,⟨_,rfl,rfl⟩,⟨_,rfl,rfl⟩,⟨_,rfl,rfl⟩,trivial⟩
   cbv;all_goals exact⟨⟨_,rfl,_,rfl,rfl,rfl,rfl,trivial⟩,⟨_,rfl,rfl⟩,trivial⟩
  rw[ab hb2] at h_1;cbv;obtain⟨hc1,h_1⟩:=ak h_1;refine AStep.mk hc1 ?_;cbv;obtain⟨x3,hx3,h_1⟩:=aE h_1;obtain⟨x3_Thing,x3_At,x3_Kind,x3_Place,⟨x3_Trip_Leg,x3_Trip_Day⟩⟩:=x3;try dsimp only at h_1
  refine AGet.mk _ (eB hg ht hx3) ?_;cbv;obtain⟨l2,hl2,h_1⟩:=ah h_1;try dsimp only at h_1
  refine ANew.mk (d_Scan l2) (dlen (d_Scan l2)) (by rw[←hl2];exact aG hg ht [(Scan.mk x3_Thing x3_At x3_Kind x3_Place (Trip.mk x3_Trip_Leg x3_Trip_Day))]) (by rw[←hl2];exact ax hg ht [(Scan.mk x3_Thing x3_At x3_Kind x3_Place (Trip.mk x3_Trip_Leg x3_Trip_Day))]) ?_;cbv;obtain⟨hc2,h_1⟩:=ak h_1;refine AStep.mk ⟨⟨rfl,(ac hg ht _)⟩,(au hg ht (ac hg ht _) rfl hc2)⟩ ?_;cbv;obtain⟨l3,hl3,h_1⟩:=ah h_1;try dsimp only at h_1
  refine ANew.mk (d_Scan l3) (dlen (d_Scan l3)) (by rw[←hl3];exact aR hg ht (ac hg ht _) rfl) (by rw[←hl3];exact aJ hg ht (ac hg ht _) rfl) ?_;cbv;try rw[hg] at h_1
  try rw[ht] at h_1
  refine⟨⟨(n1,l3,(wrap .i64 (sub v1 1))),h_1⟩,Wk.of [(0,some 0),(1,some 130)] rfl rfl ?_ ?_,Nat.lt_succ_self _⟩
  ·cbv;all_goals exact⟨⟨_,rfl,rfl⟩,⟨_,rfl,rfl⟩,⟨_,rfl,rfl⟩,⟨_,rfl,rfl⟩,⟨_,rfl,rfl⟩,trivial⟩
  cbv;all_goals exact⟨⟨_,rfl,_,rfl,rfl,rfl,rfl,trivial⟩,⟨_,rfl,rfl⟩,trivial⟩
 rintro y1 hy1;replace hy1:=hy1.symm;subst hy1;try dsimp only[lr,lrL,lrp,aZ] at h
 cbv;obtain⟨l4,hl4,h⟩:=ah h;try dsimp only at h
 refine ANew.mk (d_Scan l4) (dlen (d_Scan l4)) (by rw[←hl4];exact aG hg ht []) (by rw[←hl4];exact ax hg ht []) ?_;cbv;obtain⟨hc5,h⟩:=ak h;refine AStep.mk ⟨(ou hg ht (ac hg ht _)),(au hg ht (ac hg ht _) (gH hg ht (ac hg ht _)) hc5)⟩ ?_;cbv;obtain⟨l5,hl5,h⟩:=ah h;try dsimp only at h
 refine ANew.mk (d_Scan l5) (dlen (d_Scan l5)) (by rw[←hl5];exact aR hg ht (ac hg ht _) (gH hg ht (ac hg ht _))) (by rw[←hl5];exact aJ hg ht (ac hg ht _) (gH hg ht (ac hg ht _))) ?_;cbv;obtain⟨hc4,h⟩:=ak h;refine AStep.mk (au hg ht (ac hg ht _) (uO hg ht _) hc4) ?_;cbv;obtain⟨l6,hl6,h⟩:=ah h;try dsimp only at h
 refine ANew.mk (d_Scan l6) (dlen (d_Scan l6)) (by rw[←hl6];exact aR hg ht (ac hg ht _) (uO hg ht _)) (by rw[←hl6];exact aJ hg ht (ac hg ht _) (uO hg ht _)) ?_;cbv
 cases hb3:(lt 200 (int (dlen (d_Scan l6))))
 rotate_left
 ·rw[ab hb3] at h;cbv;obtain rfl:=Option.some.inj h;exact ARet.mk trivial hX.symm
 rw[aa hb3] at h;cbv;obtain⟨x4,hx4,h⟩:=ae h;try dsimp only at h
 refine ACallR.mk _ _ (.c (.r (.s 6 (r_Scan x4)))) rfl (hF _ _ _ (g8 hg ht hx4)) (.inl rfl) (nb rfl) (by cbv;(try simp only[hrda_Scan])) ?_;cbv;obtain⟨x5,hx5,h⟩:=ae h;try dsimp only at h
 refine ACallR.mk _ _ (.c (.r (.s 6 (r_Scan x5)))) rfl (hF _ _ _ (mD hg ht hx5)) (.inl rfl) (nb rfl) (by cbv;(try simp only[hrda_Scan])) ?_;cbv
 cases hb4:(eq (llen (r_Scan x4)) (llen (r_Scan x5)))
 ·rw[aa hb4] at h;cbv;obtain rfl:=Option.some.inj h;exact ARet.mk trivial hX.symm
 rw[ab hb4] at h;cbv;obtain⟨hB2,h⟩:=ak h;obtain⟨o2,ho2,h⟩:=ae h;try dsimp only at h
 try rw[hg] at ho2
 try rw[ht] at ho2
 refine ABL.mk {p:Nat×Int//p.1=ap p.2 (llen (r_Scan x4))∧1≤p.2∧bj G.real TE.real x4 p.1 p.2=some o2} (fun⟨⟨n2,v2⟩,_⟩=>({sl:=[(3,.c (.p 0 3 0 0)),(4,.c (.r (.s 6 (r_Scan x2_2_1)))),(5,.c (.r (.v (.int .i64 x2_2_2)))),(6,.c (.f 1 6 0 (dlen (d_Scan y1)))),(8,.c (.f 2 6 0 (dlen (d_Scan l6)))),(9,.c (.r (.s 6 (r_Scan x4)))),(10,.c (.r (.v (.int .i64 v2))))],tab:=[(0,some (.foc 3 [] [.r (.s 6 (r_Leg x2_1_Legs)),.r (.s 1 (r_I64 x2_1_Off)),.r (.v (.int .i64 x2_1_Change))] [])),(1,some (.arr 6 (d_Scan y1))),(2,some (.arr 6 (d_Scan l6)))]}:St)) 3 (fun p=>p.1.1) ⟨(ap 1 (llen (r_Scan x4)),1),rfl,Int.le_refl _,ho2⟩ (Unit) (fun _=>({sl:=[(3,.c (.p 0 3 0 0)),(4,.c (.r (.s 6 (r_Scan x2_2_1)))),(5,.c (.r (.v (.int .i64 x2_2_2)))),(6,.c (.f 1 6 0 (dlen (d_Scan y1)))),(8,.c (.f 2 6 0 (dlen (d_Scan l6)))),(9,.c (.r (.s 6 (r_Scan x4))))],tab:=[(0,some (.foc 3 [] [.r (.s 6 (r_Leg x2_1_Legs)),.r (.s 1 (r_I64 x2_1_Off)),.r (.v (.int .i64 x2_1_Change))] [])),(1,some (.arr 6 (d_Scan y1))),(2,some (.arr 6 (d_Scan l6)))]}:St)) 3 (fun y=>o2=LR.out y) ?_ ?_ ?_
 ·refine Wk.of [(0,some 0),(1,some 1),(2,some 66)] rfl rfl ?_ ?_
  ·cbv;all_goals exact⟨⟨_,rfl,rfl⟩,⟨_,rfl,rfl⟩,⟨_,rfl,rfl⟩,⟨_,rfl,rfl⟩,⟨_,rfl,rfl⟩,⟨_,rfl,rfl⟩,⟨_,rfl,rfl⟩,trivial⟩
  cbv;all_goals exact⟨⟨_,rfl,_,rfl,rfl,rfl,rfl,trivial⟩,⟨_,rfl,rfl⟩,⟨_,rfl,rfl⟩,trivial⟩
 ·rintro⟨⟨n2,v2⟩,hn2,hi2,h_2⟩ hq2;try dsimp only at hn2 hi2 h_2
  clear hq2;cbv;rcases n2 with _|n2
  ·have hb5:lt v2 (llen (r_Scan x4))=false:=ba hg hn2;rw[bj] at h_2;try rw[←hg] at h_2
   try rw[←ht] at h_2
   try dsimp only at h_2
   rw[hb5];cbv;refine⟨(),Wk.of [(0,some 0),(1,some 1),(2,some 2)] rfl rfl ?_ ?_,(Option.some.inj h_2).symm⟩
   ·cbv;all_goals exact⟨⟨_,rfl,rfl⟩,⟨_,rfl,rfl⟩,⟨_,rfl,rfl⟩,⟨_,rfl,rfl⟩,⟨_,rfl,rfl⟩,⟨_,rfl,rfl⟩,trivial⟩
   cbv;all_goals exact⟨⟨_,rfl,_,rfl,rfl,rfl,rfl,trivial⟩,⟨_,rfl,rfl⟩,⟨_,rfl,rfl⟩,trivial⟩
  have hb5:lt v2 (llen (r_Scan x4))=true:=bt hg hn2;have hl2:=cR hn2;have hs2:=bS hg hn2 hi2 hB2 (by decide);rw[bj] at h_2;try rw[←hg] at h_2
  try rw[←ht] at h_2
  try dsimp only at h_2
  rw[hb5];cbv;obtain⟨hc3,h_2⟩:=ak h_2;refine AStep.mk hc3 ?_;cbv;obtain⟨x6,hx6,h_2⟩:=aE h_2;obtain⟨x6_Thing,x6_At,x6_Kind,x6_Place,⟨x6_Trip_Leg,x6_Trip_Day⟩⟩:=x6;try dsimp only at h_2
  refine AGet.mk _ (eB hg ht hx6) ?_;cbv;refine AStep.mk (GK hi2) ?_;cbv;obtain⟨x7,hx7,h_2⟩:=aE h_2;obtain⟨x7_Thing,x7_At,x7_Kind,x7_Place,⟨x7_Trip_Leg,x7_Trip_Day⟩⟩:=x7;try dsimp only at h_2
  refine AGet.mk _ (eB hg ht hx7) ?_;cbv;obtain⟨x8,hx8,h_2⟩:=ah h_2;try dsimp only at h_2
  refine ACall.mk _ _ rfl (hF _ _ _ (g0 hg ht hx8)) (.inl rfl) (nb rfl) ?_;cbv
  cases hb6:(le 0 x8)
  rotate_left
  ·rw[ab hb6] at h_2;cbv;obtain rfl:=Option.some.inj h_2;try dsimp only[lr,lrL,lrp,aZ] at h
   obtain rfl:=Option.some.inj h;exact ARet.mk trivial hX.symm
  rw[aa hb6] at h_2;cbv;try rw[hg] at h_2
  try rw[ht] at h_2
  refine⟨⟨(n2,(wrap .i64 (add v2 1))),hs2.1,hs2.2,h_2⟩,Wk.of [(0,some 0),(1,some 1),(2,some 2)] rfl rfl ?_ ?_,Nat.lt_succ_self _⟩
  ·cbv;all_goals exact⟨⟨_,rfl,rfl⟩,⟨_,rfl,rfl⟩,⟨_,rfl,rfl⟩,⟨_,rfl,rfl⟩,⟨_,rfl,rfl⟩,⟨_,rfl,rfl⟩,⟨_,rfl,rfl⟩,trivial⟩
  cbv;all_goals exact⟨⟨_,rfl,_,rfl,rfl,rfl,rfl,trivial⟩,⟨_,rfl,rfl⟩,⟨_,rfl,rfl⟩,trivial⟩
 rintro _ hy2;replace hy2:=hy2.symm;subst hy2;try dsimp only[lr,lrL,lrp,aZ] at h
 cbv;refine AStep.mk (oI ht (ac hg ht _)) ?_;cbv;obtain⟨x9,hx9,h⟩:=ae h;try dsimp only at h
 refine ACallR.mk _ _ (.c (.r (.s 6 (r_Scan x9)))) (by rw[show rd (d_Scan l6) 0 (dlen (d_Scan l6))=r_Scan l6 from qR hg ht (ac hg ht _)];try rfl) (hF _ _ _ (g8 hg ht hx9)) (.inr (by simp only[Go.Vs.X.fresh,Go.Vs.X.freshs,gN,dL,Bool.and_self,hfr_Scan])) (nb rfl) (by cbv;(try simp only[hrda_Scan])) ?_
 cbv;obtain⟨x10,hx10,h⟩:=ae h;try dsimp only at h
 refine ACall.mk _ _ rfl (hF _ _ _ (mh hg ht hx10)) (.inl rfl) (nb rfl) ?_;cbv
 cases hb7:x10
 ·rw[aa hb7] at h;cbv;iterate 5 try(rw[hb7];cbv)
  obtain rfl:=Option.some.inj h;exact ARet.mk trivial hX.symm
 rw[ab hb7] at h;cbv;iterate 3 try(rw[hb7];cbv)
 obtain⟨x11,hx11,h⟩:=ae h;try dsimp only at h
 refine ACallR.mk _ _ (.c (.r (.s 6 (r_Scan x11)))) rfl (hF _ _ _ (g8 hg ht hx11)) (.inl rfl) (nb rfl) (by cbv;(try simp only[hrda_Scan])) ?_;cbv;try(rw[hb7];cbv)
 obtain⟨x12,hx12,h⟩:=ae h;try dsimp only at h
 refine ACall.mk _ _ rfl (hF _ _ _ (mh hg ht hx12)) (.inl rfl) (nb rfl) ?_;cbv;try(rw[hb7];cbv)
 cases hb8:x12
 ·rw[aa hb8] at h;cbv;iterate 9 try(rw[hb8];cbv)
  obtain rfl:=Option.some.inj h;exact ARet.mk trivial hX.symm
 rw[ab hb8] at h;cbv;iterate 3 try(rw[hb8];cbv)
 obtain⟨x13,hx13,h⟩:=ae h;try dsimp only at h
 refine ACallR.mk _ _ (.c (.r (.s 6 (r_Scan x13)))) rfl (hF _ _ _ (hO hg ht hx13)) (.inl rfl) (nb rfl) (by cbv;(try simp only[hrda_Scan])) ?_;cbv;iterate 4 try(rw[hb8];cbv)
 refine AStep.mk (oI ht (ac hg ht _)) ?_;cbv;obtain⟨x14,hx14,h⟩:=ae h;try dsimp only at h
 refine ACallR.mk _ _ (.c (.r (.s 6 (r_Scan x14)))) (by rw[show rd (d_Scan l6) 0 (dlen (d_Scan l6))=r_Scan l6 from qR hg ht (ac hg ht _)];try rfl) (hF _ _ _ (hO hg ht hx14)) (.inr (by simp only[Go.Vs.X.fresh,Go.Vs.X.freshs,gN,dL,Bool.and_self,hfr_Scan])) (nb rfl) (by cbv;(try simp only[hrda_Scan])) ?_
 cbv;try(rw[hb8];cbv)
 obtain⟨x15,hx15,h⟩:=ae h;try dsimp only at h
 refine ACall.mk _ _ rfl (hF _ _ _ (mh hg ht hx15)) (.inl rfl) (nb rfl) ?_;cbv;try(rw[hb8];cbv)
 cases hb9:x15
 ·rw[aa hb9] at h;cbv;iterate 9 try(rw[hb9];cbv)
  obtain rfl:=Option.some.inj h;exact ARet.mk trivial hX.symm
 rw[ab hb9] at h;cbv;iterate 3 try(rw[hb9];cbv)
 obtain⟨x16,hx16,h⟩:=ae h;try dsimp only at h
 refine ACallR.mk _ _ (.c (.r (.s 1 (r_I64 x16)))) rfl (hF _ _ _ (lU hg ht hx16)) (.inl rfl) (nb rfl) (by cbv;(try simp only[hrda_I64])) ?_;cbv;iterate 4 try(rw[hb9];cbv)
 refine AStep.mk (oI ht (ac hg ht _)) ?_;cbv;obtain⟨x17,hx17,h⟩:=ae h;try dsimp only at h
 refine ACallR.mk _ _ (.c (.r (.s 1 (r_I64 x17)))) (by rw[show rd (d_Scan y1) 0 (dlen (d_Scan y1))=r_Scan y1 from qR hg ht (ac hg ht _)];try rfl) (hF _ _ _ (lU hg ht hx17)) (.inr (by simp only[Go.Vs.X.fresh,Go.Vs.X.freshs,gN,dL,Bool.and_self,hfr_I64])) (nb rfl) (by cbv;(try simp only[hrda_I64])) ?_
 cbv;try(rw[hb9];cbv)
 obtain⟨x18,hx18,h⟩:=ae h;try dsimp only at h
 refine ACall.mk _ _ rfl (hF _ _ _ (DH hg ht hx18)) (.inl rfl) (nb rfl) ?_;cbv;try(rw[hb9];cbv)
 obtain rfl:=Option.some.inj h;exact ARet.mk trivial hX.symm
end Go.Vs
