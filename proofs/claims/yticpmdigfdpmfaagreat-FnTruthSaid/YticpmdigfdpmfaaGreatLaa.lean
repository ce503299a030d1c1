/- Part of the proofs of this seat's laws: Laa. No condition. -/
import Derived.Test.YticpmdigfdpmfaaGreatTy
import Derived.Test.YticpmdigfdpmfaaGreatTIRall
import Derived.Test.YticpmdigfdpmfaaGreatVg
import Derived.Test.YticpmdigfdpmfaaGreatProg
import Derived.Shelf.Sort.AssemblysIn
import Derived.Shelf.Sort.So_math_bits_LenInS
import Derived.Shelf.Lay
import Derived.Sort.EveryDepth
import Derived.Lib.Walk
import Derived.LoopN
set_option linter.unusedVariables false
set_option linter.unusedSimpArgs false
set_option linter.unusedSectionVars false
namespace Go.Vs
set_option maxRecDepth 100000
def ir11:J:=js [jm 2 kf] [0] (js [jm 3 0,jq 4 (.len false 3),jb 5 .gtr .i 4 (ki 4096),jm 2 5] [2] .ret)
def rv11:List RV:=[.t 2]
open Go.Proofs Go.IntWalk
set_option linter.unusedVariables false
set_option maxHeartbeats 4000000
def pA (g:G) (t:TE) (a0:List Int):Bool:=
 (g.lt 4096 (g.llen (t.r_U8 a0)))
theorem uR {g:G} {t:TE} {a0:List Int} {r:Bool} (hg:g=G.real) (ht:t=TE.real) (h:pA g t a0=r):Fn Tryz.prog 11 [.c (.s 1 (t.r_U8 a0))] (.c (.r (.v (.bool r)))):=by
 obtain⟨X,hX⟩:=aC (.c (.r (.v (.bool r))):X);rw[←hX];refine ay (rvs:=rv11) (j:=ir11) Tryz.func11 rfl (by kernel_rfl) (nb rfl) (by kernel_rfl) ac ?_;intro g2 F hg2 hF;obtain rfl:g2=g:=hg2.unique.trans hg.symm;clear hg2;obtain⟨_⟩:=g2;obtain⟨_⟩:=t
 unfold pA at h;try dsimp only at h
 cbv;subst h;exact ARet.mk trivial hX.symm
def ir64:J:=js [jq 2 (.mv (.k (.c .un)))] [0] (js [jm 5 0,jq 6 (.len false 5),jb 7 .mul .i (ki 3) 6,jb 8 .add .i (ki 744201) 7,jm 3 8] [0,3] (.seq (js [jm 4 (ki 0)] [0,3,4] (.bl 0 (.seq (js [jm 9 4,jm 10 0,jq 11 (.len false 10),jb 12 .lss .i 9 11,jm 13 12,ju 14 13 (.mv 4),ju 15 13 (.bin .lss .i 14 (ki 4000)),jq 16 (.pick 13 15 kf)] [0,3,4,16] (.cond 16 .skip (.exit 0))) (.seq (.block 1 (.reg none [jm 19 3,jb 20 .mul .i 19 (ki 167),jm 21 0,jm 22 4,ja 23 1 21 22,jk 24 23,jq 25 (.cvt .i64 24),jb 26 .add .i 20 25,jb 27 .add .i 26 (ki 29),jb 28 .and .i 27 (ki 1073741823),jm 3 28] [0,3,4])) (.reg none [jm 17 4,jb 18 .add .i 17 (ki 1),jm 4 18] [0,3,4]))))) (js [jm 29 0,jm 30 3,jq 31 (.bld [.n 1,.r (.v (.int .i64 0)),.r (.v (.int .i64 0))] [(0,1,29),(2,1,30)]),jq 32 (.box 31),jm 2 32] [2] .ret)))
def rv64:List RV:=[.t 2]
def iE (g:G) (t:TE):List Int→Int→Int→Int
 |[],v2,v1=>
  v1
 |z1::ls1,v2,v1=>
  br (g.lt v2 4000)
  (
   iE g t ls1 (g.wrap .i64 (g.add v2 1)) (g.band .i64 (g.wrap .i64 (g.add (g.wrap .i64 (g.add (g.wrap .i64 (g.mul v1 167)) (g.wrap .i64 z1))) 29)) 1073741823))
  (
   v1)
def qr (g:G) (t:TE) (a0:List Int):Cur:=
 lP (iE g t a0 0 (g.wrap .i64 (g.add 744201 (g.wrap .i64 (g.mul 3 (g.llen (t.r_U8 a0))))))) fun y1=>
 (Cur.mk a0 0 y1)
theorem Az {g:G} {t:TE} {a0:List Int} {r:Cur} (hg:g=G.real) (ht:t=TE.real) (h:qr g t a0=r):Fn Tryz.prog 64 [.c (.s 1 (t.r_U8 a0))] (.p (Cur.ds t r)):=by
 obtain⟨X,hX⟩:=aC (.p (Cur.ds t r):X);rw[←hX];refine ay (rvs:=rv64) (j:=ir64) Tryz.func64 rfl (by kernel_rfl) (nb rfl) (by kernel_rfl) ac ?_;intro g2 F hg2 hF;obtain rfl:g2=g:=hg2.unique.trans hg.symm;clear hg2;obtain⟨wrap,lt,_,_,_,_,band,_,_,_,_,_,_,add,_,mul,_,_,_,_,_,llen⟩:=g2;obtain⟨r_U8⟩:=t
 unfold qr at h;try dsimp only at h
 cbv;obtain⟨o1,ho1,h⟩:=ah h;try dsimp only at h
 try rw[hg] at ho1
 try rw[ht] at ho1
 refine ABL.mk {p:Nat×Int×Int//p.1≤a0.length∧p.2.1=((p.1:Nat):Int)∧iE G.real TE.real (List.drop p.1 a0) p.2.1 p.2.2=o1} (fun⟨⟨k1,v2,v1⟩,_⟩=>({sl:=[(0,.c (.r (.s 1 (r_U8 a0)))),(3,.c (.r (.v (.int .i64 v1)))),(4,.c (.r (.v (.int .i64 v2))))],tab:=[]}:St)) 0 (fun p=>a0.length-p.1.1) ⟨(0,0,(wrap .i64 (add 744201 (wrap .i64 (mul 3 (llen (r_U8 a0))))))),Nat.zero_le _,rfl,ho1⟩ (Int) (fun y1=>({sl:=[(0,.c (.r (.s 1 (r_U8 a0)))),(3,.c (.r (.v (.int .i64 y1))))],tab:=[]}:St)) 0 (fun y=>o1=y) ?_ ?_ ?_
 ·refine Wk.of [] rfl rfl ?_ ?_
  ·cbv;all_goals exact⟨⟨_,rfl,rfl⟩,⟨_,rfl,rfl⟩,⟨_,rfl,rfl⟩,trivial⟩
  cbv;all_goals exact trivial
 ·rintro⟨⟨k1,v2,v1⟩,hk1,hi1,h_1⟩ hq1;have hm1:=(hq1.1 0 _ _ rfl);try dsimp only at hk1 hi1 h_1
  clear hq1;cbv
  by_cases hc1_:k1<a0.length
  ·have hb1:lt v2 (llen (r_U8 a0))=true:=vJ hg ht hi1 hc1_;have hs1:=Bx hg ht hi1 hc1_ hm1;obtain⟨z1,hz1⟩:=aG hc1_;rw[ax hz1] at h_1;rw[iE] at h_1;try rw[←hg] at h_1
   try rw[←ht] at h_1
   try dsimp only at h_1
   rw[hb1];cbv;iterate 2 try(rw[hb1];cbv)
   cases hb2:(lt v2 4000)
   ·rw[aa hb2] at h_1;cbv;refine⟨v1,Wk.of [] rfl rfl ?_ ?_,h_1.symm⟩
    ·cbv;all_goals exact⟨⟨_,rfl,rfl⟩,⟨_,rfl,rfl⟩,trivial⟩
    cbv;all_goals exact trivial
   rw[ab hb2] at h_1;cbv;refine AStep.mk (ez hi1) ?_;cbv;refine AGet.mk _ (Ac hg ht hi1 hz1) ?_;cbv;try rw[hg] at h_1
   try rw[ht] at h_1
   refine⟨⟨(k1+1,(wrap .i64 (add v2 1)),(band .i64 (wrap .i64 (add (wrap .i64 (add (wrap .i64 (mul v1 167)) (wrap .i64 z1))) 29)) 1073741823)),hc1_,hs1,h_1⟩,Wk.of [] rfl rfl ?_ ?_,aK hc1_⟩
   ·cbv;all_goals exact⟨⟨_,rfl,rfl⟩,⟨_,rfl,rfl⟩,⟨_,rfl,rfl⟩,trivial⟩
   cbv;all_goals exact trivial
  have hb1:lt v2 (llen (r_U8 a0))=false:=vr hg ht hi1 hc1_;rw[List.drop_of_length_le (Nat.le_of_not_lt hc1_)] at h_1;rw[iE] at h_1;try rw[←hg] at h_1
  try rw[←ht] at h_1
  try dsimp only at h_1
  rw[hb1];cbv;iterate 2 try(rw[hb1];cbv)
  refine⟨v1,Wk.of [] rfl rfl ?_ ?_,h_1.symm⟩
  ·cbv;all_goals exact⟨⟨_,rfl,rfl⟩,⟨_,rfl,rfl⟩,trivial⟩
  cbv;all_goals exact trivial
 rintro y1 hy1;replace hy1:=hy1.symm;subst hy1;try dsimp only[lr,lrL,lrp,aZ] at h
 cbv;subst h;exact ARet.mk trivial hX.symm
def ir58:J:=js [jq 1 (.box 0),jq 2 (.mv (.k (.c (.n 1))))] [1] (js [jq 7 (.bsl 1 []),jm 3 7] [1,3] (.seq (js [jm 4 (ki 0)] [1,3,4] (.bl 0 (.seq (js [jm 8 4,jf 9 0 1,jk 10 9,jq 11 (.len false 10),jb 12 .mul .i (ki 2) 11,jb 13 .lss .i 8 12] [1,3,4,13] (.cond 13 .skip (.exit 0))) (.seq (.block 1 (js [jf 16 0 1,jk 17 16,jm 18 4,jb 19 .quo .i 18 (ki 2),ja 20 6 17 19,jf 21 0 20,jk 22 21,jm 5 22] [1,3,4,5] (.seq (js [jm 23 4,jb 24 .rem .i 23 (ki 2),jb 25 .eql .i 24 (ki 1)] [1,3,4,5,25] (.cond 25 (.reg none [jf 26 0 1,jk 27 26,jm 28 4,jb 29 .quo .i 28 (ki 2),ja 30 6 27 29,jf 31 1 30,jk 32 31,jm 5 32] [1,3,4,5]) .skip)) (js [jm 6 (ki 0)] [1,3,4,5,6] (.seq (.bl 2 (.seq (js [jm 33 6,jm 34 3,jq 35 (.len false 34),jb 36 .lss .i 33 35,jm 37 36,ju 38 37 (.mv 3),ju 39 37 (.mv 6),ju 40 37 (.ia 1 38 39),ju 41 37 (.ld false 1 40),ju 42 37 (.mv 5),ju 43 37 (.bin .lss .s 41 42),jq 44 (.pick 37 43 kf)] [1,3,4,5,6,44] (.cond 44 .skip (.exit 2))) (.block 3 (.reg none [jm 45 6,jb 46 .add .i 45 (ki 1),jm 6 46] [1,3,4,5,6])))) (js [jm 47 6,jm 48 3,jq 49 (.len false 48),jb 50 .eql .i 47 49,jm 51 50,jv 52 51 (.mv 3),jv 53 51 (.mv 6),jv 54 51 (.ia 1 52 53),jv 55 51 (.ld false 1 54),jv 56 51 (.mv 5),jv 57 51 (.bin .neq .s 55 56),jq 58 (.pick 51 kt 57)] [1,3,4,5,6,58] (.cond 58 (.reg (some [[],[],[],[1,2],[0,1,2,3],[],[5],[0,1,2,3,4,5,6],[],[],[8,9],[0,1,2,3,4,5,6,7,8,9,10],[0,1,2,3,4,5,6,7,8,9,10,11]]) [jq 59 (.bsl 1 []),jm 60 3,jm 61 6,jq 62 (.sl 1 60 none (some 61)),jq 63 (.app 1 16 false 59 62),jm 64 5,jq 65 (.bsl 1 [64]),jq 66 (.app 1 16 true 63 65),jm 67 3,jm 68 6,jq 69 (.sl 1 67 (some 68) none),jq 70 (.app 1 16 false 66 69),jm 3 70] [1,3,4]) .skip))))))) (.reg none [jm 14 4,jb 15 .add .i 14 (ki 1),jm 4 15] [1,3,4]))))) (js [jm 71 3,jm 2 71] [2] .ret)))
def rv58:List RV:=[.t 2]
def co (g:G) (t:TE) (w1:List ByteArray) (x1:Leg):Nat→Int→Option Int
 |0,v3=>
  some v3
 |n3+1,v3=>
  gt w1 (g.nat v3) fun x4=>
  br (g.slt x4 x1.From)
  (
   co g t w1 x1 n3 (g.wrap .i64 (g.add v3 1)))
  (
   some v3)
def cg (g:G) (t:TE) (w1:List ByteArray) (x1:Leg):Nat→Int→Option Int
 |0,v2=>
  some v2
 |n2+1,v2=>
  gt w1 (g.nat v2) fun x2=>
  br (g.slt x2 x1.To)
  (
   cg g t w1 x1 n2 (g.wrap .i64 (g.add v2 1)))
  (
   some v2)
def aL (g:G) (t:TE) (a0:Network):Nat→Int→List ByteArray→Option (List ByteArray)
 |0,v1,w1=>
  some w1
 |n1+1,v1,w1=>
  gd (((0:Int)≤(g.wrap .i64 (g.quo v1 2))))<|
  gt a0.Legs (g.nat (g.wrap .i64 (g.quo v1 2))) fun x1=>
  br (g.eq (g.rem v1 2) 1)
  (
   gd (((0:Int)≤(g.wrap .i64 (g.quo v1 2))))<|
   gd (((g.int (g.dlen (t.d_S w1)))≤9223372036854775807))<|
   cl (cg g t w1 x1 (aA 0 (g.int (g.dlen (t.d_S w1)))) 0) fun y1=>
   br (g.eq y1 (g.int (g.dlen (t.d_S w1))))
   (
    lP ([]) fun(l2:List ByteArray)=>
    gd (((0:Int)≤0∧0≤y1∧y1≤(((g.dlen (t.d_S w1)):Nat):Int)))<|
    gd (((g.nat 0)+(g.nsub (g.nat y1) (g.nat 0))≤w1.length))<|
    gd (((l2.length+(List.take (g.nsub (g.nat y1) (g.nat 0)) (List.drop (g.nat 0) w1)).length)*16≤70368744177664))<|
    lP (l2++(List.take (g.nsub (g.nat y1) (g.nat 0)) (List.drop (g.nat 0) w1))) fun(l3:List ByteArray)=>
    lP ([x1.To]) fun(l4:List ByteArray)=>
    gd (((l3.length+l4.length)*16≤70368744177664))<|
    lP (l3++l4) fun(l5:List ByteArray)=>
    gd (((0:Int)≤y1∧y1≤(g.int (g.dlen (t.d_S w1)))∧(g.int (g.dlen (t.d_S w1)))≤(((g.dlen (t.d_S w1)):Nat):Int)))<|
    gd (((g.nat y1)+(g.nsub (g.nat (g.int (g.dlen (t.d_S w1)))) (g.nat y1))≤w1.length))<|
    gd (((l5.length+(List.take (g.nsub (g.nat (g.int (g.dlen (t.d_S w1)))) (g.nat y1)) (List.drop (g.nat y1) w1)).length)*16≤70368744177664))<|
    lP (l5++(List.take (g.nsub (g.nat (g.int (g.dlen (t.d_S w1)))) (g.nat y1)) (List.drop (g.nat y1) w1))) fun(l6:List ByteArray)=>
    aL g t a0 n1 (g.wrap .i64 (g.add v1 1)) l6)
   (
    gd (((0:Int)≤y1∧y1<(((g.dlen (t.d_S w1)):Nat):Int)))<|
    gt w1 (g.nat y1) fun x3=>
    br (g.seq x3 x1.To)
    (
     aL g t a0 n1 (g.wrap .i64 (g.add v1 1)) w1)
    (
     lP ([]) fun(l7:List ByteArray)=>
     gd (((0:Int)≤0∧0≤y1∧y1≤(((g.dlen (t.d_S w1)):Nat):Int)))<|
     gd (((g.nat 0)+(g.nsub (g.nat y1) (g.nat 0))≤w1.length))<|
     gd (((l7.length+(List.take (g.nsub (g.nat y1) (g.nat 0)) (List.drop (g.nat 0) w1)).length)*16≤70368744177664))<|
     lP (l7++(List.take (g.nsub (g.nat y1) (g.nat 0)) (List.drop (g.nat 0) w1))) fun(l8:List ByteArray)=>
     lP ([x1.To]) fun(l9:List ByteArray)=>
     gd (((l8.length+l9.length)*16≤70368744177664))<|
     lP (l8++l9) fun(l10:List ByteArray)=>
     gd (((0:Int)≤y1∧y1≤(g.int (g.dlen (t.d_S w1)))∧(g.int (g.dlen (t.d_S w1)))≤(((g.dlen (t.d_S w1)):Nat):Int)))<|
     gd (((g.nat y1)+(g.nsub (g.nat (g.int (g.dlen (t.d_S w1)))) (g.nat y1))≤w1.length))<|
     gd (((l10.length+(List.take (g.nsub (g.nat (g.int (g.dlen (t.d_S w1)))) (g.nat y1)) (List.drop (g.nat y1) w1)).length)*16≤70368744177664))<|
     lP (l10++(List.take (g.nsub (g.nat (g.int (g.dlen (t.d_S w1)))) (g.nat y1)) (List.drop (g.nat y1) w1))) fun(l11:List ByteArray)=>
     aL g t a0 n1 (g.wrap .i64 (g.add v1 1)) l11)))
  (
   gd (((g.int (g.dlen (t.d_S w1)))≤9223372036854775807))<|
   cl (co g t w1 x1 (aA 0 (g.int (g.dlen (t.d_S w1)))) 0) fun y2=>
   br (g.eq y2 (g.int (g.dlen (t.d_S w1))))
   (
    lP ([]) fun(l12:List ByteArray)=>
    gd (((0:Int)≤0∧0≤y2∧y2≤(((g.dlen (t.d_S w1)):Nat):Int)))<|
    gd (((g.nat 0)+(g.nsub (g.nat y2) (g.nat 0))≤w1.length))<|
    gd (((l12.length+(List.take (g.nsub (g.nat y2) (g.nat 0)) (List.drop (g.nat 0) w1)).length)*16≤70368744177664))<|
    lP (l12++(List.take (g.nsub (g.nat y2) (g.nat 0)) (List.drop (g.nat 0) w1))) fun(l13:List ByteArray)=>
    lP ([x1.From]) fun(l14:List ByteArray)=>
    gd (((l13.length+l14.length)*16≤70368744177664))<|
    lP (l13++l14) fun(l15:List ByteArray)=>
    gd (((0:Int)≤y2∧y2≤(g.int (g.dlen (t.d_S w1)))∧(g.int (g.dlen (t.d_S w1)))≤(((g.dlen (t.d_S w1)):Nat):Int)))<|
    gd (((g.nat y2)+(g.nsub (g.nat (g.int (g.dlen (t.d_S w1)))) (g.nat y2))≤w1.length))<|
    gd (((l15.length+(List.take (g.nsub (g.nat (g.int (g.dlen (t.d_S w1)))) (g.nat y2)) (List.drop (g.nat y2) w1)).length)*16≤70368744177664))<|
    lP (l15++(List.take (g.nsub (g.nat (g.int (g.dlen (t.d_S w1)))) (g.nat y2)) (List.drop (g.nat y2) w1))) fun(l16:List ByteArray)=>
    aL g t a0 n1 (g.wrap .i64 (g.add v1 1)) l16)
   (
    gd (((0:Int)≤y2∧y2<(((g.dlen (t.d_S w1)):Nat):Int)))<|
    gt w1 (g.nat y2) fun x5=>
    br (g.seq x5 x1.From)
    (
     aL g t a0 n1 (g.wrap .i64 (g.add v1 1)) w1)
    (
     lP ([]) fun(l17:List ByteArray)=>
     gd (((0:Int)≤0∧0≤y2∧y2≤(((g.dlen (t.d_S w1)):Nat):Int)))<|
     gd (((g.nat 0)+(g.nsub (g.nat y2) (g.nat 0))≤w1.length))<|
     gd (((l17.length+(List.take (g.nsub (g.nat y2) (g.nat 0)) (List.drop (g.nat 0) w1)).length)*16≤70368744177664))<|
     lP (l17++(List.take (g.nsub (g.nat y2) (g.nat 0)) (List.drop (g.nat 0) w1))) fun(l18:List ByteArray)=>
     lP ([x1.From]) fun(l19:List ByteArray)=>
     gd (((l18.length+l19.length)*16≤70368744177664))<|
     lP (l18++l19) fun(l20:List ByteArray)=>
     gd (((0:Int)≤y2∧y2≤(g.int (g.dlen (t.d_S w1)))∧(g.int (g.dlen (t.d_S w1)))≤(((g.dlen (t.d_S w1)):Nat):Int)))<|
     gd (((g.nat y2)+(g.nsub (g.nat (g.int (g.dlen (t.d_S w1)))) (g.nat y2))≤w1.length))<|
     gd (((l20.length+(List.take (g.nsub (g.nat (g.int (g.dlen (t.d_S w1)))) (g.nat y2)) (List.drop (g.nat y2) w1)).length)*16≤70368744177664))<|
     lP (l20++(List.take (g.nsub (g.nat (g.int (g.dlen (t.d_S w1)))) (g.nat y2)) (List.drop (g.nat y2) w1))) fun(l21:List ByteArray)=>
     aL g t a0 n1 (g.wrap .i64 (g.add v1 1)) l21)))
def eM (g:G) (t:TE) (a0:Network):Option (List ByteArray):=
 lP ([]) fun(l1:List ByteArray)=>
 gd (((g.wrap .i64 (g.mul 2 (g.llen (t.r_Leg a0.Legs))))≤9223372036854775807))<|
 cl (aL g t a0 (aA 0 (g.wrap .i64 (g.mul 2 (g.llen (t.r_Leg a0.Legs))))) 0 l1) fun y3=>
 some y3
theorem iv {g:G} {t:TE} {a0:Network} {r:List ByteArray} (hg:g=G.real) (ht:t=TE.real) (h:eM g t a0=some r):Fn Tryz.prog 58 [.g (Network.rs t a0)] (.c (.o 1 (t.d_S r))):=by
 obtain⟨X,hX⟩:=aC (.c (.o 1 (t.d_S r)):X);rw[←hX];refine ay (rvs:=rv58) (j:=ir58) Tryz.func58 rfl (by kernel_rfl) (nb rfl) (by kernel_rfl) ac ?_;intro g2 F hg2 hF;obtain rfl:g2=g:=hg2.unique.trans hg.symm;clear hg2;obtain⟨wrap,lt,_,eq,_,rem,_,_,_,_,_,_,int,add,_,mul,_,seq,slt,_,_,llen,_,_,dlen⟩:=g2;obtain⟨_,_,_,_,r_Leg,_,r_I64,_,_,_,_,_,_,d_S⟩:=t
 obtain⟨a0_Legs,a0_Off,a0_Change⟩:=a0;unfold eM at h;try dsimp only at h
 cbv;obtain⟨l1,hl1,h⟩:=ah h;try dsimp only at h
 refine ANew.mk (d_S l1) (dlen (d_S l1)) (by rw[←hl1];exact i5 hg ht []) (by rw[←hl1];exact gQ hg ht []) ?_;cbv;obtain⟨hB1,h⟩:=aj h;obtain⟨o1,ho1,h⟩:=af h;try dsimp only at h
 try rw[hg] at ho1
 try rw[ht] at ho1
 refine ABL.mk {p:Nat×Int×List ByteArray//p.1=aA p.2.1 (wrap .i64 (mul 2 (llen (r_Leg a0_Legs))))∧0≤p.2.1∧aL G.real TE.real (Network.mk a0_Legs a0_Off a0_Change) p.1 p.2.1 p.2.2=some o1} (fun⟨⟨n1,v1,w1⟩,_⟩=>({sl:=[(1,.c (.p 0 3 0 0)),(3,.c (.f 1 1 0 (dlen (d_S w1)))),(4,.c (.r (.v (.int .i64 v1))))],tab:=[(0,some (.foc 3 [] [.r (.s 6 (r_Leg a0_Legs)),.r (.s 1 (r_I64 a0_Off)),.r (.v (.int .i64 a0_Change))] [])),(1,some (.arr 1 (d_S w1)))]}:St)) 2 (fun p=>p.1.1) ⟨(aA 0 (wrap .i64 (mul 2 (llen (r_Leg a0_Legs)))),0,l1),rfl,Int.le_refl _,ho1⟩ (List ByteArray) (fun y3=>({sl:=[(3,.c (.f 0 1 0 (dlen (d_S y3))))],tab:=[(0,some (.arr 1 (d_S y3)))]}:St)) 1 (fun y=>o1=y) ?_ ?_ ?_
 ·refine Wk.of [(0,some 0),(1,some 32)] rfl rfl ?_ ?_
  ·cbv;all_goals exact⟨⟨_,rfl,rfl⟩,⟨_,rfl,rfl⟩,⟨_,rfl,rfl⟩,trivial⟩
  cbv;all_goals exact⟨⟨_,rfl,_,rfl,rfl,rfl,rfl,trivial⟩,⟨_,rfl,rfl⟩,trivial⟩
 ·rintro⟨⟨n1,v1,w1⟩,hn1,hi1,h_1⟩ hq1;try dsimp only at hn1 hi1 h_1
  clear hq1;cbv;rcases n1 with _|n1
  ·have hb1:lt v1 (wrap .i64 (mul 2 (llen (r_Leg a0_Legs))))=false:=bY hg hn1;rw[aL] at h_1;try rw[←hg] at h_1
   try rw[←ht] at h_1
   try dsimp only at h_1
   rw[hb1];cbv;refine⟨w1,Wk.of [(0,some 1)] rfl rfl ?_ ?_,(Option.some.inj h_1).symm⟩
   ·cbv;all_goals exact⟨⟨_,rfl,rfl⟩,trivial⟩
   cbv;all_goals exact⟨⟨_,rfl,rfl⟩,trivial⟩
  have hb1:lt v1 (wrap .i64 (mul 2 (llen (r_Leg a0_Legs))))=true:=c7 hg hn1;have hl1:=fv hn1;have hs1:=d6 hg hn1 hi1 hB1 (by decide);rw[aL] at h_1;try rw[←hg] at h_1
  try rw[←ht] at h_1
  try dsimp only at h_1
  rw[hb1];cbv;refine AStep.mk (by decide) ?_;cbv;obtain⟨hc1,h_1⟩:=aj h_1;refine AStep.mk hc1 ?_;cbv;obtain⟨x1,hx1,h_1⟩:=aD h_1;obtain⟨x1_From,x1_To,x1_Start,x1_Takes,x1_Days,x1_Room⟩:=x1;try dsimp only at h_1
  refine AGet.mk _ (aY hg ht hx1) ?_;cbv;refine AStep.mk (by decide) ?_;cbv
  cases hb2:(eq (rem v1 2) 1)
  ·rw[aa hb2] at h_1;cbv;obtain⟨hB3,h_1⟩:=aj h_1;obtain⟨o3,ho3,h_1⟩:=af h_1;try dsimp only at h_1
   try rw[hg] at ho3
   try rw[ht] at ho3
   refine ABL.mk {p:Nat×Int//p.1=aA p.2 (int (dlen (d_S w1)))∧0≤p.2∧co G.real TE.real w1 (Leg.mk x1_From x1_To x1_Start x1_Takes x1_Days x1_Room) p.1 p.2=some o3} (fun⟨⟨n3,v3⟩,_⟩=>({sl:=[(1,.c (.p 0 3 0 0)),(3,.c (.f 1 1 0 (dlen (d_S w1)))),(4,.c (.r (.v (.int .i64 v1)))),(5,.c (.r (.v (.string x1_From)))),(6,.c (.r (.v (.int .i64 v3))))],tab:=[(0,some (.foc 3 [] [.r (.s 6 (r_Leg a0_Legs)),.r (.s 1 (r_I64 a0_Off)),.r (.v (.int .i64 a0_Change))] [])),(1,some (.arr 1 (d_S w1)))]}:St)) 2 (fun p=>p.1.1) ⟨(aA 0 (int (dlen (d_S w1))),0),rfl,Int.le_refl _,ho3⟩ (Int) (fun y2=>({sl:=[(1,.c (.p 0 3 0 0)),(3,.c (.f 1 1 0 (dlen (d_S w1)))),(4,.c (.r (.v (.int .i64 v1)))),(5,.c (.r (.v (.string x1_From)))),(6,.c (.r (.v (.int .i64 y2))))],tab:=[(0,some (.foc 3 [] [.r (.s 6 (r_Leg a0_Legs)),.r (.s 1 (r_I64 a0_Off)),.r (.v (.int .i64 a0_Change))] [])),(1,some (.arr 1 (d_S w1)))]}:St)) 2 (fun y=>o3=y) ?_ ?_ ?_
   ·refine Wk.of [(0,some 0),(1,some 1)] rfl rfl ?_ ?_
    ·cbv;all_goals exact⟨⟨_,rfl,rfl⟩,⟨_,rfl,rfl⟩,⟨_,rfl,rfl⟩,⟨_,rfl,rfl⟩,⟨_,rfl,rfl⟩,trivial⟩
    cbv;all_goals exact⟨⟨_,rfl,_,rfl,rfl,rfl,rfl,trivial⟩,⟨_,rfl,rfl⟩,trivial⟩
   ·rintro⟨⟨n3,v3⟩,hn3,hi3,h_3⟩ hq3;try dsimp only at hn3 hi3 h_3
    clear hq3;cbv;rcases n3 with _|n3
    ·have hb7:lt v3 (int (dlen (d_S w1)))=false:=bY hg hn3;rw[co] at h_3;try rw[←hg] at h_3
     try rw[←ht] at h_3
     try dsimp only at h_3
     rw[hb7];cbv;iterate 6 try(rw[hb7];cbv)
     refine⟨v3,Wk.of [(0,some 0),(1,some 1)] rfl rfl ?_ ?_,(Option.some.inj h_3).symm⟩
     ·cbv;all_goals exact⟨⟨_,rfl,rfl⟩,⟨_,rfl,rfl⟩,⟨_,rfl,rfl⟩,⟨_,rfl,rfl⟩,⟨_,rfl,rfl⟩,trivial⟩
     cbv;all_goals exact⟨⟨_,rfl,_,rfl,rfl,rfl,rfl,trivial⟩,⟨_,rfl,rfl⟩,trivial⟩
    have hb7:lt v3 (int (dlen (d_S w1)))=true:=c7 hg hn3;have hl3:=fv hn3;have hs3:=d6 hg hn3 hi3 hB3 (by decide);rw[co] at h_3;try rw[←hg] at h_3
    try rw[←ht] at h_3
    try dsimp only at h_3
    rw[hb7];cbv;iterate 2 try(rw[hb7];cbv)
    refine AStep.mk (lz hg hi3 hl3) ?_;cbv;try(rw[hb7];cbv)
    obtain⟨x4,hx4,h_3⟩:=aD h_3;try dsimp only at h_3
    refine AGet.mk _ (kb hg ht hx4) ?_;cbv;iterate 3 try(rw[hb7];cbv)
    cases hb8:(slt x4 x1_From)
    ·rw[aa hb8] at h_3;cbv;refine⟨v3,Wk.of [(0,some 0),(1,some 1)] rfl rfl ?_ ?_,(Option.some.inj h_3).symm⟩
     ·cbv;all_goals exact⟨⟨_,rfl,rfl⟩,⟨_,rfl,rfl⟩,⟨_,rfl,rfl⟩,⟨_,rfl,rfl⟩,⟨_,rfl,rfl⟩,trivial⟩
     cbv;all_goals exact⟨⟨_,rfl,_,rfl,rfl,rfl,rfl,trivial⟩,⟨_,rfl,rfl⟩,trivial⟩
    rw[ab hb8] at h_3;cbv;try rw[hg] at h_3
    try rw[ht] at h_3
    refine⟨⟨(n3,(wrap .i64 (add v3 1))),hs3.1,hs3.2,h_3⟩,Wk.of [(0,some 0),(1,some 1)] rfl rfl ?_ ?_,Nat.lt_succ_self _⟩
    ·cbv;all_goals exact⟨⟨_,rfl,rfl⟩,⟨_,rfl,rfl⟩,⟨_,rfl,rfl⟩,⟨_,rfl,rfl⟩,⟨_,rfl,rfl⟩,trivial⟩
    cbv;all_goals exact⟨⟨_,rfl,_,rfl,rfl,rfl,rfl,trivial⟩,⟨_,rfl,rfl⟩,trivial⟩
   rintro y2 hy3;replace hy3:=hy3.symm;subst hy3;try dsimp only[lr,lrL,lrp,aZ] at h_1
   cbv
   cases hb9:(eq y2 (int (dlen (d_S w1))))
   rotate_left
   ·rw[ab hb9] at h_1;cbv;iterate 6 try(rw[hb9];cbv)
    obtain⟨l12,hl12,h_1⟩:=ah h_1;try dsimp only at h_1
    refine ANew.mk (d_S l12) (dlen (d_S l12)) (by rw[←hl12];exact i5 hg ht []) (by rw[←hl12];exact gQ hg ht []) ?_;cbv;obtain⟨hc18,h_1⟩:=aj h_1;refine AStep.mk hc18 ?_;cbv;obtain⟨hc23,h_1⟩:=aj h_1;obtain⟨hc24,h_1⟩:=aj h_1;refine AStep.mk ⟨(fQ hg ht hc23),(dz hg ht (ap hg ht _) (cM hg ht _ _ _) hc24)⟩ ?_;cbv;obtain⟨l13,hl13,h_1⟩:=ah h_1;try dsimp only at h_1
    refine ANew.mk (d_S l13) (dlen (d_S l13)) (by rw[←hl13];exact i8 hg ht (ap hg ht _) (cM hg ht _ _ _)) (by rw[←hl13];exact gc hg ht (ap hg ht _) (cM hg ht _ _ _)) ?_;cbv;obtain⟨l14,hl14,h_1⟩:=ah h_1;try dsimp only at h_1
    refine ANew.mk (d_S l14) (dlen (d_S l14)) (by rw[←hl14];exact i5 hg ht [x1_From]) (by rw[←hl14];exact gQ hg ht [x1_From]) ?_;cbv;obtain⟨hc22,h_1⟩:=aj h_1;refine AStep.mk ⟨⟨rfl,(ap hg ht _)⟩,(dz hg ht (ap hg ht _) rfl hc22)⟩ ?_;cbv;obtain⟨l15,hl15,h_1⟩:=ah h_1;try dsimp only at h_1
    refine ANew.mk (d_S l15) (dlen (d_S l15)) (by rw[←hl15];exact i8 hg ht (ap hg ht _) rfl) (by rw[←hl15];exact gc hg ht (ap hg ht _) rfl) ?_;cbv;obtain⟨hc19,h_1⟩:=aj h_1;refine AStep.mk hc19 ?_;cbv;obtain⟨hc20,h_1⟩:=aj h_1;obtain⟨hc21,h_1⟩:=aj h_1;refine AStep.mk ⟨(fQ hg ht hc20),(dz hg ht (ap hg ht _) (cM hg ht _ _ _) hc21)⟩ ?_;cbv;obtain⟨l16,hl16,h_1⟩:=ah h_1;try dsimp only at h_1
    refine ANew.mk (d_S l16) (dlen (d_S l16)) (by rw[←hl16];exact i8 hg ht (ap hg ht _) (cM hg ht _ _ _)) (by rw[←hl16];exact gc hg ht (ap hg ht _) (cM hg ht _ _ _)) ?_;cbv;try rw[hg] at h_1
    try rw[ht] at h_1
    refine⟨⟨(n1,(wrap .i64 (add v1 1)),l16),hs1.1,hs1.2,h_1⟩,Wk.of [(0,some 0),(1,some 370)] rfl rfl ?_ ?_,Nat.lt_succ_self _⟩
    ·cbv;all_goals exact⟨⟨_,rfl,rfl⟩,⟨_,rfl,rfl⟩,⟨_,rfl,rfl⟩,trivial⟩
    cbv;all_goals exact⟨⟨_,rfl,_,rfl,rfl,rfl,rfl,trivial⟩,⟨_,rfl,rfl⟩,trivial⟩
   rw[aa hb9] at h_1;cbv;iterate 2 try(rw[hb9];cbv)
   obtain⟨hc25,h_1⟩:=aj h_1;refine AStep.mk hc25 ?_;cbv;try(rw[hb9];cbv)
   obtain⟨x5,hx5,h_1⟩:=aD h_1;try dsimp only at h_1
   refine AGet.mk _ (kb hg ht hx5) ?_;cbv;iterate 3 try(rw[hb9];cbv)
   cases hb10:(seq x5 x1_From)
   rotate_left
   ·rw[ab hb10] at h_1;cbv;try rw[hg] at h_1
    try rw[ht] at h_1
    refine⟨⟨(n1,(wrap .i64 (add v1 1)),w1),hs1.1,hs1.2,h_1⟩,Wk.of [(0,some 0),(1,some 1)] rfl rfl ?_ ?_,Nat.lt_succ_self _⟩
    ·cbv;all_goals exact⟨⟨_,rfl,rfl⟩,⟨_,rfl,rfl⟩,⟨_,rfl,rfl⟩,trivial⟩
    cbv;all_goals exact⟨⟨_,rfl,_,rfl,rfl,rfl,rfl,trivial⟩,⟨_,rfl,rfl⟩,trivial⟩
   rw[aa hb10] at h_1;cbv;obtain⟨l17,hl17,h_1⟩:=ah h_1;try dsimp only at h_1
   refine ANew.mk (d_S l17) (dlen (d_S l17)) (by rw[←hl17];exact i5 hg ht []) (by rw[←hl17];exact gQ hg ht []) ?_;cbv;obtain⟨hc26,h_1⟩:=aj h_1;refine AStep.mk hc26 ?_;cbv;obtain⟨hc31,h_1⟩:=aj h_1;obtain⟨hc32,h_1⟩:=aj h_1;refine AStep.mk ⟨(fQ hg ht hc31),(dz hg ht (ap hg ht _) (cM hg ht _ _ _) hc32)⟩ ?_;cbv;obtain⟨l18,hl18,h_1⟩:=ah h_1;try dsimp only at h_1
   refine ANew.mk (d_S l18) (dlen (d_S l18)) (by rw[←hl18];exact i8 hg ht (ap hg ht _) (cM hg ht _ _ _)) (by rw[←hl18];exact gc hg ht (ap hg ht _) (cM hg ht _ _ _)) ?_;cbv;obtain⟨l19,hl19,h_1⟩:=ah h_1;try dsimp only at h_1
   refine ANew.mk (d_S l19) (dlen (d_S l19)) (by rw[←hl19];exact i5 hg ht [x1_From]) (by rw[←hl19];exact gQ hg ht [x1_From]) ?_;cbv;obtain⟨hc30,h_1⟩:=aj h_1;refine AStep.mk ⟨⟨rfl,(ap hg ht _)⟩,(dz hg ht (ap hg ht _) rfl hc30)⟩ ?_;cbv;obtain⟨l20,hl20,h_1⟩:=ah h_1;try dsimp only at h_1
   refine ANew.mk (d_S l20) (dlen (d_S l20)) (by rw[←hl20];exact i8 hg ht (ap hg ht _) rfl) (by rw[←hl20];exact gc hg ht (ap hg ht _) rfl) ?_;cbv;obtain⟨hc27,h_1⟩:=aj h_1;refine AStep.mk hc27 ?_;cbv;obtain⟨hc28,h_1⟩:=aj h_1;obtain⟨hc29,h_1⟩:=aj h_1;refine AStep.mk ⟨(fQ hg ht hc28),(dz hg ht (ap hg ht _) (cM hg ht _ _ _) hc29)⟩ ?_;cbv;obtain⟨l21,hl21,h_1⟩:=ah h_1;try dsimp only at h_1
   refine ANew.mk (d_S l21) (dlen (d_S l21)) (by rw[←hl21];exact i8 hg ht (ap hg ht _) (cM hg ht _ _ _)) (by rw[←hl21];exact gc hg ht (ap hg ht _) (cM hg ht _ _ _)) ?_;cbv;try rw[hg] at h_1
   try rw[ht] at h_1
   refine⟨⟨(n1,(wrap .i64 (add v1 1)),l21),hs1.1,hs1.2,h_1⟩,Wk.of [(0,some 0),(1,some 370)] rfl rfl ?_ ?_,Nat.lt_succ_self _⟩
   ·cbv;all_goals exact⟨⟨_,rfl,rfl⟩,⟨_,rfl,rfl⟩,⟨_,rfl,rfl⟩,trivial⟩
   cbv;all_goals exact⟨⟨_,rfl,_,rfl,rfl,rfl,rfl,trivial⟩,⟨_,rfl,rfl⟩,trivial⟩
  rw[ab hb2] at h_1;cbv;refine AStep.mk (by decide) ?_;cbv;obtain⟨hc2,h_1⟩:=aj h_1;refine AStep.mk hc2 ?_;cbv;refine AGet.mk _ (aY hg ht hx1) ?_;cbv;obtain⟨hB2,h_1⟩:=aj h_1;obtain⟨o2,ho2,h_1⟩:=af h_1;try dsimp only at h_1
  try rw[hg] at ho2
  try rw[ht] at ho2
  refine ABL.mk {p:Nat×Int//p.1=aA p.2 (int (dlen (d_S w1)))∧0≤p.2∧cg G.real TE.real w1 (Leg.mk x1_From x1_To x1_Start x1_Takes x1_Days x1_Room) p.1 p.2=some o2} (fun⟨⟨n2,v2⟩,_⟩=>({sl:=[(1,.c (.p 0 3 0 0)),(3,.c (.f 1 1 0 (dlen (d_S w1)))),(4,.c (.r (.v (.int .i64 v1)))),(5,.c (.r (.v (.string x1_To)))),(6,.c (.r (.v (.int .i64 v2))))],tab:=[(0,some (.foc 3 [] [.r (.s 6 (r_Leg a0_Legs)),.r (.s 1 (r_I64 a0_Off)),.r (.v (.int .i64 a0_Change))] [])),(1,some (.arr 1 (d_S w1)))]}:St)) 2 (fun p=>p.1.1) ⟨(aA 0 (int (dlen (d_S w1))),0),rfl,Int.le_refl _,ho2⟩ (Int) (fun y1=>({sl:=[(1,.c (.p 0 3 0 0)),(3,.c (.f 1 1 0 (dlen (d_S w1)))),(4,.c (.r (.v (.int .i64 v1)))),(5,.c (.r (.v (.string x1_To)))),(6,.c (.r (.v (.int .i64 y1))))],tab:=[(0,some (.foc 3 [] [.r (.s 6 (r_Leg a0_Legs)),.r (.s 1 (r_I64 a0_Off)),.r (.v (.int .i64 a0_Change))] [])),(1,some (.arr 1 (d_S w1)))]}:St)) 2 (fun y=>o2=y) ?_ ?_ ?_
  ·refine Wk.of [(0,some 0),(1,some 1)] rfl rfl ?_ ?_
   ·cbv;all_goals exact⟨⟨_,rfl,rfl⟩,⟨_,rfl,rfl⟩,⟨_,rfl,rfl⟩,⟨_,rfl,rfl⟩,⟨_,rfl,rfl⟩,trivial⟩
   cbv;all_goals exact⟨⟨_,rfl,_,rfl,rfl,rfl,rfl,trivial⟩,⟨_,rfl,rfl⟩,trivial⟩
  ·rintro⟨⟨n2,v2⟩,hn2,hi2,h_2⟩ hq2;try dsimp only at hn2 hi2 h_2
   clear hq2;cbv;rcases n2 with _|n2
   ·have hb3:lt v2 (int (dlen (d_S w1)))=false:=bY hg hn2;rw[cg] at h_2;try rw[←hg] at h_2
    try rw[←ht] at h_2
    try dsimp only at h_2
    rw[hb3];cbv;iterate 6 try(rw[hb3];cbv)
    refine⟨v2,Wk.of [(0,some 0),(1,some 1)] rfl rfl ?_ ?_,(Option.some.inj h_2).symm⟩
    ·cbv;all_goals exact⟨⟨_,rfl,rfl⟩,⟨_,rfl,rfl⟩,⟨_,rfl,rfl⟩,⟨_,rfl,rfl⟩,⟨_,rfl,rfl⟩,trivial⟩
    cbv;all_goals exact⟨⟨_,rfl,_,rfl,rfl,rfl,rfl,trivial⟩,⟨_,rfl,rfl⟩,trivial⟩
   have hb3:lt v2 (int (dlen (d_S w1)))=true:=c7 hg hn2;have hl2:=fv hn2;have hs2:=d6 hg hn2 hi2 hB2 (by decide);rw[cg] at h_2;try rw[←hg] at h_2
   try rw[←ht] at h_2
   try dsimp only at h_2
   rw[hb3];cbv;iterate 2 try(rw[hb3];cbv)
   refine AStep.mk (lz hg hi2 hl2) ?_;cbv;try(rw[hb3];cbv)
   obtain⟨x2,hx2,h_2⟩:=aD h_2;try dsimp only at h_2
   refine AGet.mk _ (kb hg ht hx2) ?_;cbv;iterate 3 try(rw[hb3];cbv)
   cases hb4:(slt x2 x1_To)
   ·rw[aa hb4] at h_2;cbv;refine⟨v2,Wk.of [(0,some 0),(1,some 1)] rfl rfl ?_ ?_,(Option.some.inj h_2).symm⟩
    ·cbv;all_goals exact⟨⟨_,rfl,rfl⟩,⟨_,rfl,rfl⟩,⟨_,rfl,rfl⟩,⟨_,rfl,rfl⟩,⟨_,rfl,rfl⟩,trivial⟩
    cbv;all_goals exact⟨⟨_,rfl,_,rfl,rfl,rfl,rfl,trivial⟩,⟨_,rfl,rfl⟩,trivial⟩
   rw[ab hb4] at h_2;cbv;try rw[hg] at h_2
   try rw[ht] at h_2
   refine⟨⟨(n2,(wrap .i64 (add v2 1))),hs2.1,hs2.2,h_2⟩,Wk.of [(0,some 0),(1,some 1)] rfl rfl ?_ ?_,Nat.lt_succ_self _⟩
   ·cbv;all_goals exact⟨⟨_,rfl,rfl⟩,⟨_,rfl,rfl⟩,⟨_,rfl,rfl⟩,⟨_,rfl,rfl⟩,⟨_,rfl,rfl⟩,trivial⟩
   cbv;all_goals exact⟨⟨_,rfl,_,rfl,rfl,rfl,rfl,trivial⟩,⟨_,rfl,rfl⟩,trivial⟩
  rintro y1 hy2;replace hy2:=hy2.symm;subst hy2;try dsimp only[lr,lrL,lrp,aZ] at h_1
  cbv
  cases hb5:(eq y1 (int (dlen (d_S w1))))
  rotate_left
  ·rw[ab hb5] at h_1;cbv;iterate 6 try(rw[hb5];cbv)
   obtain⟨l2,hl2,h_1⟩:=ah h_1;try dsimp only at h_1
   refine ANew.mk (d_S l2) (dlen (d_S l2)) (by rw[←hl2];exact i5 hg ht []) (by rw[←hl2];exact gQ hg ht []) ?_;cbv;obtain⟨hc3,h_1⟩:=aj h_1;refine AStep.mk hc3 ?_;cbv;obtain⟨hc8,h_1⟩:=aj h_1;obtain⟨hc9,h_1⟩:=aj h_1;refine AStep.mk ⟨(fQ hg ht hc8),(dz hg ht (ap hg ht _) (cM hg ht _ _ _) hc9)⟩ ?_;cbv;obtain⟨l3,hl3,h_1⟩:=ah h_1;try dsimp only at h_1
   refine ANew.mk (d_S l3) (dlen (d_S l3)) (by rw[←hl3];exact i8 hg ht (ap hg ht _) (cM hg ht _ _ _)) (by rw[←hl3];exact gc hg ht (ap hg ht _) (cM hg ht _ _ _)) ?_;cbv;obtain⟨l4,hl4,h_1⟩:=ah h_1;try dsimp only at h_1
   refine ANew.mk (d_S l4) (dlen (d_S l4)) (by rw[←hl4];exact i5 hg ht [x1_To]) (by rw[←hl4];exact gQ hg ht [x1_To]) ?_;cbv;obtain⟨hc7,h_1⟩:=aj h_1;refine AStep.mk ⟨⟨rfl,(ap hg ht _)⟩,(dz hg ht (ap hg ht _) rfl hc7)⟩ ?_;cbv;obtain⟨l5,hl5,h_1⟩:=ah h_1;try dsimp only at h_1
   refine ANew.mk (d_S l5) (dlen (d_S l5)) (by rw[←hl5];exact i8 hg ht (ap hg ht _) rfl) (by rw[←hl5];exact gc hg ht (ap hg ht _) rfl) ?_;cbv;obtain⟨hc4,h_1⟩:=aj h_1;refine AStep.mk hc4 ?_;cbv;obtain⟨hc5,h_1⟩:=aj h_1;obtain⟨hc6,h_1⟩:=aj h_1;refine AStep.mk ⟨(fQ hg ht hc5),(dz hg ht (ap hg ht _) (cM hg ht _ _ _) hc6)⟩ ?_;cbv;obtain⟨l6,hl6,h_1⟩:=ah h_1;try dsimp only at h_1
   refine ANew.mk (d_S l6) (dlen (d_S l6)) (by rw[←hl6];exact i8 hg ht (ap hg ht _) (cM hg ht _ _ _)) (by rw[←hl6];exact gc hg ht (ap hg ht _) (cM hg ht _ _ _)) ?_;cbv;try rw[hg] at h_1
   try rw[ht] at h_1
   refine⟨⟨(n1,(wrap .i64 (add v1 1)),l6),hs1.1,hs1.2,h_1⟩,Wk.of [(0,some 0),(1,some 370)] rfl rfl ?_ ?_,Nat.lt_succ_self _⟩
   ·cbv;all_goals exact⟨⟨_,rfl,rfl⟩,⟨_,rfl,rfl⟩,⟨_,rfl,rfl⟩,trivial⟩
   cbv;all_goals exact⟨⟨_,rfl,_,rfl,rfl,rfl,rfl,trivial⟩,⟨_,rfl,rfl⟩,trivial⟩
  rw[aa hb5] at h_1;cbv;iterate 2 try(rw[hb5];cbv)
  obtain⟨hc10,h_1⟩:=aj h_1;refine AStep.mk hc10 ?_;cbv;try(rw[hb5];cbv)
  obtain⟨x3,hx3,h_1⟩:=aD h_1;try dsimp only at h_1
  refine AGet.mk _ (kb hg ht hx3) ?_;cbv;iterate 3 try(rw[hb5];cbv)
  cases hb6:(seq x3 x1_To)
  rotate_left
  ·rw[ab hb6] at h_1;cbv;try rw[hg] at h_1
   try rw[ht] at h_1
   refine⟨⟨(n1,(wrap .i64 (add v1 1)),w1),hs1.1,hs1.2,h_1⟩,Wk.of [(0,some 0),(1,some 1)] rfl rfl ?_ ?_,Nat.lt_succ_self _⟩
   ·cbv;all_goals exact⟨⟨_,rfl,rfl⟩,⟨_,rfl,rfl⟩,⟨_,rfl,rfl⟩,trivial⟩
   cbv;all_goals exact⟨⟨_,rfl,_,rfl,rfl,rfl,rfl,trivial⟩,⟨_,rfl,rfl⟩,trivial⟩
  rw[aa hb6] at h_1;cbv;obtain⟨l7,hl7,h_1⟩:=ah h_1;try dsimp only at h_1
  refine ANew.mk (d_S l7) (dlen (d_S l7)) (by rw[←hl7];exact i5 hg ht []) (by rw[←hl7];exact gQ hg ht []) ?_;cbv;obtain⟨hc11,h_1⟩:=aj h_1;refine AStep.mk hc11 ?_;cbv;obtain⟨hc16,h_1⟩:=aj h_1;obtain⟨hc17,h_1⟩:=aj h_1;refine AStep.mk ⟨(fQ hg ht hc16),(dz hg ht (ap hg ht _) (cM hg ht _ _ _) hc17)⟩ ?_;cbv;obtain⟨l8,hl8,h_1⟩:=ah h_1;try dsimp only at h_1
  refine ANew.mk (d_S l8) (dlen (d_S l8)) (by rw[←hl8];exact i8 hg ht (ap hg ht _) (cM hg ht _ _ _)) (by rw[←hl8];exact gc hg ht (ap hg ht _) (cM hg ht _ _ _)) ?_;cbv;obtain⟨l9,hl9,h_1⟩:=ah h_1;try dsimp only at h_1
  refine ANew.mk (d_S l9) (dlen (d_S l9)) (by rw[←hl9];exact i5 hg ht [x1_To]) (by rw[←hl9];exact gQ hg ht [x1_To]) ?_;cbv;obtain⟨hc15,h_1⟩:=aj h_1;refine AStep.mk ⟨⟨rfl,(ap hg ht _)⟩,(dz hg ht (ap hg ht _) rfl hc15)⟩ ?_;cbv;obtain⟨l10,hl10,h_1⟩:=ah h_1;try dsimp only at h_1
  refine ANew.mk (d_S l10) (dlen (d_S l10)) (by rw[←hl10];exact i8 hg ht (ap hg ht _) rfl) (by rw[←hl10];exact gc hg ht (ap hg ht _) rfl) ?_;cbv;obtain⟨hc12,h_1⟩:=aj h_1;refine AStep.mk hc12 ?_;cbv;obtain⟨hc13,h_1⟩:=aj h_1;obtain⟨hc14,h_1⟩:=aj h_1;refine AStep.mk ⟨(fQ hg ht hc13),(dz hg ht (ap hg ht _) (cM hg ht _ _ _) hc14)⟩ ?_;cbv;obtain⟨l11,hl11,h_1⟩:=ah h_1;try dsimp only at h_1
  refine ANew.mk (d_S l11) (dlen (d_S l11)) (by rw[←hl11];exact i8 hg ht (ap hg ht _) (cM hg ht _ _ _)) (by rw[←hl11];exact gc hg ht (ap hg ht _) (cM hg ht _ _ _)) ?_;cbv;try rw[hg] at h_1
  try rw[ht] at h_1
  refine⟨⟨(n1,(wrap .i64 (add v1 1)),l11),hs1.1,hs1.2,h_1⟩,Wk.of [(0,some 0),(1,some 370)] rfl rfl ?_ ?_,Nat.lt_succ_self _⟩
  ·cbv;all_goals exact⟨⟨_,rfl,rfl⟩,⟨_,rfl,rfl⟩,⟨_,rfl,rfl⟩,trivial⟩
  cbv;all_goals exact⟨⟨_,rfl,_,rfl,rfl,rfl,rfl,trivial⟩,⟨_,rfl,rfl⟩,trivial⟩
 rintro y3 hy1;replace hy1:=hy1.symm;subst hy1;try dsimp only[lr,lrL,lrp,aZ] at h
 cbv;obtain rfl:=Option.some.inj h;exact ARet.mk ⟨rfl,(ap hg ht _)⟩ hX.symm
def Hy:J:=js [jm 2 (ki 0)] [0] (js [jm 4 0,jm 5 0,jq 6 (.nilc 5),jf 7 2 6,jk 8 7,jb 9 .mul .i 8 (ki 6364136223846793005),jb 10 .add .i 9 (ki 1442695040888963407),jq 11 (.nilc 4),jf 12 2 11,jp (.st 1 12 10)] [0] (.seq (.reg (some [[],[0],[0,1],[0,1,2],[0,1,2,3],[],[5],[5,6],[5,6,7],[5,6,7,8],[0,1,2,3,4,5,6,7,8,9],[0,1,2,3,4,5,6,7,8,9,10],[0,1,2,3,4,5,6,7,8,9,10,11]]) [jm 13 0,jq 14 (.nilc 13),jf 15 2 14,jk 16 15,jq 17 (.bin .shr .i 16 (.k (.c (.r (.v (.int .u64 35)))))),jm 18 0,jq 19 (.nilc 18),jf 20 2 19,jk 21 20,jq 22 (.bin .shr .i 21 (.k (.c (.r (.v (.int .u64 45)))))),jb 23 .xor .i 17 22,jb 24 .and .i 23 (ki 255),jm 3 24] [0,3]) (.seq (.seq (.reg (some [[],[0],[0,1],[0,1,2],[],[4],[4,5],[4,5,6],[4,5,6,7],[0,1,2,3,4,5,6,7,8]]) [jm 25 0,jq 26 (.nilc 25),jf 27 1 26,jk 28 27,jm 29 0,jq 30 (.nilc 29),jf 31 0 30,jk 32 31,jq 33 (.len false 32),jb 34 .lss .i 28 33] [0,3,34]) (.cond 34 (.seq (.reg (some [[],[],[1],[1,2],[1,2,3],[],[5],[5,6],[5,6,7],[1,2,3,4,5,6,7,8],[1,2,3,4,5,6,7,8,9],[1,2,3,4,5,6,7,8,9,10],[0,1,2,3,4,5,6,7,8,9,10,11],[0,1,2,3,4,5,6,7,8,9,10,11,12],[0,1,2,3,4,5,6,7,8,9,10,11,12,13]]) [jm 35 3,jm 36 0,jq 37 (.nilc 36),jf 38 0 37,jk 39 38,jm 40 0,jq 41 (.nilc 40),jf 42 1 41,jk 43 42,ja 44 1 39 43,jk 45 44,jq 46 (.cvt .i64 45),jb 47 .add .i 35 46,jb 48 .and .i 47 (ki 255),jm 3 48] [0,3]) (.reg none [jm 49 0,jm 50 0,jq 51 (.nilc 50),jf 52 1 51,jk 53 52,jb 54 .add .i 53 (ki 1),jq 55 (.nilc 49),jf 56 1 55,jp (.st 1 56 54)] [3])) .skip)) (js [jm 57 3,jm 2 57] [2] .ret))))
def Hs:List RV:=[.t 2]
def hL (g:G) (t:TE) (a0:Cur):Option (Int×Cur):=
 br (g.lt a0.i (g.llen (t.r_U8 a0.b)))
 (
  gd (((0:Int)≤a0.i))<|
  gt a0.b (g.nat a0.i) fun x1=>
  some (((g.band .i64 (g.wrap .i64 (g.add (g.band .i64 (g.bxor .i64 (g.shr .i64 (g.wrap .i64 (g.add (g.wrap .i64 (g.mul a0.h 6364136223846793005)) 1442695040888963407)) 35) (g.shr .i64 (g.wrap .i64 (g.add (g.wrap .i64 (g.mul a0.h 6364136223846793005)) 1442695040888963407)) 45)) 255) (g.wrap .i64 x1))) 255),(Cur.mk a0.b (g.wrap .i64 (g.add a0.i 1)) (g.wrap .i64 (g.add (g.wrap .i64 (g.mul a0.h 6364136223846793005)) 1442695040888963407))))))
 (
  some (((g.band .i64 (g.bxor .i64 (g.shr .i64 (g.wrap .i64 (g.add (g.wrap .i64 (g.mul a0.h 6364136223846793005)) 1442695040888963407)) 35) (g.shr .i64 (g.wrap .i64 (g.add (g.wrap .i64 (g.mul a0.h 6364136223846793005)) 1442695040888963407)) 45)) 255),(Cur.mk a0.b a0.i (g.wrap .i64 (g.add (g.wrap .i64 (g.mul a0.h 6364136223846793005)) 1442695040888963407))))))
theorem kI {g:G} {t:TE} {a0:Cur} {r:Int×Cur} (hg:g=G.real) (ht:t=TE.real) (h:hL g t a0=some r):FnM Tryz.prog 140 (.p (Cur.ds t a0)) [] (.c (.r (.v (.int .i64 r.1)))) (.p (Cur.ds t r.2)):=by
 obtain⟨X,hX⟩:=aC (.c (.r (.v (.int .i64 r.1))):X);obtain⟨Y,hY⟩:=aC (.p (Cur.ds t r.2):AM);rw[←hX,←hY];refine gO (rvs:=Hs) (j:=Hy) Tryz.func140 rfl (by kernel_rfl) (nb rfl) (by kernel_rfl) ac ?_;intro g2 F hg2 hF;obtain rfl:g2=g:=hg2.unique.trans hg.symm;clear hg2;obtain⟨_,lt,_,_,_,_,_,_,_,_,_,_,_,_,_,_,_,_,_,_,_,llen⟩:=g2;obtain⟨r_U8⟩:=t
 obtain⟨a0_b,a0_i,a0_h⟩:=a0;unfold hL at h;try dsimp only at h
 cbv;refine AStep.mk (by decide) ?_;cbv;refine AStep.mk (by decide) ?_;cbv
 cases hb1:(lt a0_i (llen (r_U8 a0_b)))
 ·rw[aa hb1] at h;cbv;obtain rfl:=Option.some.inj h;exact ARetM.mk trivial hX.symm hY.symm
 rw[ab hb1] at h;cbv;obtain⟨hc1,h⟩:=aj h;refine AStep.mk hc1 ?_;cbv;obtain⟨x1,hx1,h⟩:=aD h;try dsimp only at h
 refine AGet.mk _ (rV hg ht hx1) ?_;cbv;obtain rfl:=Option.some.inj h;exact ARetM.mk trivial hX.symm hY.symm
def ir90:J:=js [jm 4 (ki 0)] [0,1] (.seq (js [jm 8 1,jb 9 .leq .i 8 (ki 0)] [0,1,9] (.cond 9 (js [jm 4 (ki 0)] [4] .ret) .skip)) (.seq (js [jm 10 1,jb 11 .leq .i 10 (ki 256)] [0,1,11] (.cond 11 (js [jm 12 0,jq 13 (.callm 140 true 12 []),jm 14 1,jb 15 .rem .i 13 14,jm 4 15] [4] .ret) .skip)) (js [jm 16 0,jq 17 (.callm 140 true 16 []),jm 5 17] [0,1,5] (js [jm 18 0,jq 19 (.callm 140 true 18 []),jm 6 19] [0,1,5,6] (js [jm 20 0,jq 21 (.callm 140 true 20 []),jm 7 21] [1,5,6,7] (js [jm 22 5,jb 23 .mul .i 22 (ki 65536),jm 24 6,jb 25 .mul .i 24 (ki 256),jb 26 .add .i 23 25,jm 27 7,jb 28 .add .i 26 27,jm 29 1,jb 30 .rem .i 28 29,jm 4 30] [4] .ret))))))
def rv90:List RV:=[.t 4]
def be (g:G) (t:TE) (a0:Cur) (a1:Int):Option (Int×Cur):=
 br (g.le a1 0)
 (
  some ((0,a0)))
 (
  br (g.le a1 256)
  (
   cl (hL g t a0) fun x1=>
   gd ((a1≠0))<|
   some (((g.rem x1.1 a1),(Cur.mk x1.2.b x1.2.i x1.2.h))))
  (
   cl (hL g t a0) fun x2=>
   cl (hL g t (Cur.mk x2.2.b x2.2.i x2.2.h)) fun x3=>
   cl (hL g t (Cur.mk x3.2.b x3.2.i x3.2.h)) fun x4=>
   gd ((a1≠0))<|
   some (((g.rem (g.wrap .i64 (g.add (g.wrap .i64 (g.add (g.wrap .i64 (g.mul x2.1 65536)) (g.wrap .i64 (g.mul x3.1 256)))) x4.1)) a1),(Cur.mk x4.2.b x4.2.i x4.2.h)))))
theorem ba {g:G} {t:TE} {a0:Cur} {a1:Int} {r:Int×Cur} (hg:g=G.real) (ht:t=TE.real) (h:be g t a0 a1=some r):FnM Tryz.prog 90 (.p (Cur.ds t a0)) [.c (.v (.int .i64 a1))] (.c (.r (.v (.int .i64 r.1)))) (.p (Cur.ds t r.2)):=by
 obtain⟨X,hX⟩:=aC (.c (.r (.v (.int .i64 r.1))):X);obtain⟨Y,hY⟩:=aC (.p (Cur.ds t r.2):AM);rw[←hX,←hY];refine gO (rvs:=rv90) (j:=ir90) Tryz.func90 rfl (by kernel_rfl) (nb rfl) (by kernel_rfl) ac ?_;intro g2 F hg2 hF;obtain rfl:g2=g:=hg2.unique.trans hg.symm;clear hg2;obtain⟨_,_,le⟩:=g2;obtain⟨_⟩:=t
 obtain⟨a0_b,a0_i,a0_h⟩:=a0;unfold be at h;try dsimp only at h
 cbv
 cases hb1:(le a1 0)
 rotate_left
 ·rw[ab hb1] at h;cbv;obtain rfl:=Option.some.inj h;exact ARetM.mk trivial hX.symm hY.symm
 rw[aa hb1] at h;cbv
 cases hb2:(le a1 256)
 rotate_left
 ·rw[ab hb2] at h;cbv;obtain⟨x1,hx1,h⟩:=af h;obtain⟨x1_1,⟨x1_2_b,x1_2_i,x1_2_h⟩⟩:=x1;try dsimp only at h
  refine ACallM.mk _ _ _ _ rfl rfl (hF _ _ _ (kI hg ht hx1)) rfl (nb rfl) (nb rfl) ?_;cbv;obtain⟨hc1,h⟩:=aj h;refine AStep.mk hc1 ?_;cbv;obtain rfl:=Option.some.inj h;exact ARetM.mk trivial hX.symm hY.symm
 rw[aa hb2] at h;cbv;obtain⟨x2,hx2,h⟩:=af h;obtain⟨x2_1,⟨x2_2_b,x2_2_i,x2_2_h⟩⟩:=x2;try dsimp only at h
 refine ACallM.mk _ _ _ _ rfl rfl (hF _ _ _ (kI hg ht hx2)) rfl (nb rfl) (nb rfl) ?_;cbv;obtain⟨x3,hx3,h⟩:=af h;obtain⟨x3_1,⟨x3_2_b,x3_2_i,x3_2_h⟩⟩:=x3;try dsimp only at h
 refine ACallM.mk _ _ _ _ rfl rfl (hF _ _ _ (kI hg ht hx3)) rfl (nb rfl) (nb rfl) ?_;cbv;obtain⟨x4,hx4,h⟩:=af h;obtain⟨x4_1,⟨x4_2_b,x4_2_i,x4_2_h⟩⟩:=x4;try dsimp only at h
 refine ACallM.mk _ _ _ _ rfl rfl (hF _ _ _ (kI hg ht hx4)) rfl (nb rfl) (nb rfl) ?_;cbv;obtain⟨hc2,h⟩:=aj h;refine AStep.mk hc2 ?_;cbv;obtain rfl:=Option.some.inj h;exact ARetM.mk trivial hX.symm hY.symm
def ir67:J:=js [jm 4 kf] [0,1] (js [jm 5 0,jm 6 1,jq 7 (.callm 90 true 5 [6]),jb 8 .eql .i 7 (ki 0),jm 4 8] [4] .ret)
def rv67:List RV:=[.t 4]
def ef (g:G) (t:TE) (a0:Cur) (a1:Int):Option (Bool×Cur):=
 cl (be g t a0 a1) fun x1=>
 some (((g.eq x1.1 0),(Cur.mk x1.2.b x1.2.i x1.2.h)))
theorem eC {g:G} {t:TE} {a0:Cur} {a1:Int} {r:Bool×Cur} (hg:g=G.real) (ht:t=TE.real) (h:ef g t a0 a1=some r):FnM Tryz.prog 67 (.p (Cur.ds t a0)) [.c (.v (.int .i64 a1))] (.c (.r (.v (.bool r.1)))) (.p (Cur.ds t r.2)):=by
 obtain⟨X,hX⟩:=aC (.c (.r (.v (.bool r.1))):X);obtain⟨Y,hY⟩:=aC (.p (Cur.ds t r.2):AM);rw[←hX,←hY];refine gO (rvs:=rv67) (j:=ir67) Tryz.func67 rfl (by kernel_rfl) (nb rfl) (by kernel_rfl) ac ?_;intro g2 F hg2 hF;obtain rfl:g2=g:=hg2.unique.trans hg.symm;clear hg2;obtain⟨_⟩:=g2;obtain⟨_⟩:=t
 obtain⟨a0_b,a0_i,a0_h⟩:=a0;unfold ef at h;try dsimp only at h
 cbv;obtain⟨x1,hx1,h⟩:=af h;obtain⟨x1_1,⟨x1_2_b,x1_2_i,x1_2_h⟩⟩:=x1;try dsimp only at h
 refine ACallM.mk _ _ _ _ rfl rfl (hF _ _ _ (ba hg ht hx1)) rfl (nb rfl) (nb rfl) ?_;cbv;obtain rfl:=Option.some.inj h;exact ARetM.mk trivial hX.symm hY.symm
def Gw (s_k0:ByteArray):J:=js [jq 4 (.mv (.k (.c (.r (.v (.string s_k0))))))] [0,1] (js [jm 5 1,jm 6 0,jm 7 1,jq 8 (.len false 7),jq 9 (.callm 90 true 6 [8]),ja 10 1 5 9,jk 11 10,jm 4 11] [4] .ret)
def HX:List RV:=[.t 4]
def md (g:G) (t:TE) (a0:Cur) (a1:List ByteArray):Option (ByteArray×Cur):=
 cl (be g t a0 (g.llen (t.r_S a1))) fun x1=>
 gd (((0:Int)≤x1.1))<|
 gt a1 (g.nat x1.1) fun x2=>
 some ((x2,(Cur.mk x1.2.b x1.2.i x1.2.h)))
theorem td {g:G} {t:TE} {a0:Cur} {a1:List ByteArray} {r:ByteArray×Cur} (hg:g=G.real) (ht:t=TE.real) (h:md g t a0 a1=some r):FnM Tryz.prog 155 (.p (Cur.ds t a0)) [.c (.s 1 (t.r_S a1))] (.c (.r (.v (.string r.1)))) (.p (Cur.ds t r.2)):=by
 obtain⟨X,hX⟩:=aC (.c (.r (.v (.string r.1))):X);obtain⟨Y,hY⟩:=aC (.p (Cur.ds t r.2):AM);rw[←hX,←hY];refine gO (rvs:=HX) (j:=(Gw str_k0)) Tryz.func155 rfl (by kernel_rfl) (nb rfl) (by kernel_rfl) ac ?_;intro g2 F hg2 hF;obtain rfl:g2=g:=hg2.unique.trans hg.symm;clear hg2;obtain⟨_⟩:=g2;obtain⟨_⟩:=t
 obtain⟨a0_b,a0_i,a0_h⟩:=a0;unfold md at h;try dsimp only at h
 obtain⟨s_k0,hs_k0⟩:∃s,str_k0=s:=⟨_,rfl⟩;try rw[hs_k0] at h
 rw[hs_k0];cbv;obtain⟨x1,hx1,h⟩:=af h;obtain⟨x1_1,⟨x1_2_b,x1_2_i,x1_2_h⟩⟩:=x1;try dsimp only at h
 refine ACallM.mk _ _ _ _ rfl rfl (hF _ _ _ (ba hg ht hx1)) rfl (nb rfl) (nb rfl) ?_;cbv;obtain⟨hc1,h⟩:=aj h;refine AStep.mk hc1 ?_;cbv;obtain⟨x2,hx2,h⟩:=aD h;try dsimp only at h
 refine AGet.mk _ (qn hg ht hx2) ?_;cbv;obtain rfl:=Option.some.inj h;exact ARetM.mk trivial hX.symm hY.symm
def H0 (s_k0 s_k1 s_k2 s_k3 s_k4 s_k5 s_k6 s_k7:ByteArray):J:=js [jq 2 (.mv (.k (.c (.r (.v (.string s_k0))))))] [0] (js [jm 3 0,jq 4 (.bslr 1 [(.k (.c (.r (.v (.string s_k1))))),(.k (.c (.r (.v (.string s_k2))))),(.k (.c (.r (.v (.string s_k3))))),(.k (.c (.r (.v (.string s_k4))))),(.k (.c (.r (.v (.string s_k5))))),(.k (.c (.r (.v (.string s_k6))))),(.k (.c (.r (.v (.string s_k7)))))]),jq 5 (.callm 155 true 3 [4]),jm 2 5] [2] .ret)
def GG:List RV:=[.t 2]
def gw (g:G) (t:TE) (a0:Cur):Option (ByteArray×Cur):=
 lP ([lQ,lp,lI,k9,xO,yd,yc]) fun(l1:List ByteArray)=>
 cl (md g t a0 l1) fun x1=>
 some ((x1.1,(Cur.mk x1.2.b x1.2.i x1.2.h)))
theorem lH {g:G} {t:TE} {a0:Cur} {r:ByteArray×Cur} (hg:g=G.real) (ht:t=TE.real) (h:gw g t a0=some r):FnM Tryz.prog 124 (.p (Cur.ds t a0)) [] (.c (.r (.v (.string r.1)))) (.p (Cur.ds t r.2)):=by
 obtain⟨X,hX⟩:=aC (.c (.r (.v (.string r.1))):X);obtain⟨Y,hY⟩:=aC (.p (Cur.ds t r.2):AM);rw[←hX,←hY];refine gO (rvs:=GG) (j:=(H0 str_k0 lQ lp lI k9 xO yd yc)) Tryz.func124 rfl (by kernel_rfl) (nb rfl) (by kernel_rfl) ac ?_;intro g2 F hg2 hF;obtain rfl:g2=g:=hg2.unique.trans hg.symm;clear hg2;obtain⟨_⟩:=g2
 obtain⟨_,_,_,_,_,_,_,_,_,_,_,_,r_S⟩:=t;obtain⟨a0_b,a0_i,a0_h⟩:=a0;unfold gw at h;try dsimp only at h
 obtain⟨s_k0,hs_k0⟩:∃s,str_k0=s:=⟨_,rfl⟩;try rw[hs_k0] at h
 rw[hs_k0];obtain⟨s_k1,hs_k1⟩:∃s,lQ=s:=⟨_,rfl⟩;try rw[hs_k1] at h
 rw[hs_k1];obtain⟨s_k2,hs_k2⟩:∃s,lp=s:=⟨_,rfl⟩;try rw[hs_k2] at h
 rw[hs_k2];obtain⟨s_k3,hs_k3⟩:∃s,lI=s:=⟨_,rfl⟩;try rw[hs_k3] at h
 rw[hs_k3];obtain⟨s_k4,hs_k4⟩:∃s,k9=s:=⟨_,rfl⟩;try rw[hs_k4] at h
 rw[hs_k4];obtain⟨s_k5,hs_k5⟩:∃s,xO=s:=⟨_,rfl⟩;try rw[hs_k5] at h
 rw[hs_k5];obtain⟨s_k6,hs_k6⟩:∃s,yd=s:=⟨_,rfl⟩;try rw[hs_k6] at h
 rw[hs_k6];obtain⟨s_k7,hs_k7⟩:∃s,yc=s:=⟨_,rfl⟩;try rw[hs_k7] at h
 rw[hs_k7];cbv;obtain⟨l1,hl1,h⟩:=ah h;try dsimp only at h
 refine AVal.mk (r_S l1) (by rw[←hl1];exact Ci hg ht [s_k1,s_k2,s_k3,s_k4,s_k5,s_k6,s_k7]) ?_;cbv;obtain⟨x1,hx1,h⟩:=af h;obtain⟨x1_1,⟨x1_2_b,x1_2_i,x1_2_h⟩⟩:=x1;try dsimp only at h
 refine ACallM.mk _ _ _ _ rfl rfl (hF _ _ _ (td hg ht hx1)) rfl (nb rfl) (nb rfl) ?_;cbv;obtain rfl:=Option.some.inj h;exact ARetM.mk trivial hX.symm hY.symm
def ir70 (s_k0:ByteArray):J:=js [jq 3 (.box 1),jq 4 (.mv (.k (.c (.r (.v (.string s_k0))))))] [0,3] (js [jl 6 3 3,jc 7 58 [6],jm 5 7] [0,5] (.seq (js [jm 8 0,jq 9 (.callm 67 true 8 [(ki 9)])] [0,5,9] (.cond 9 (js [jm 10 0,jq 11 (.callm 124 true 10 []),jm 4 11] [4] .ret) .skip)) (js [jm 12 5,jm 13 0,jm 14 5,jq 15 (.len false 14),jq 16 (.callm 90 true 13 [15]),ja 17 1 12 16,jk 18 17,jm 4 18] [4] .ret)))
def rv70:List RV:=[.t 4]
def oQ (g:G) (t:TE) (a0:Cur) (a1:Network):Option (ByteArray×Cur):=
 cl (eM g t a1) fun x1=>
 cl (ef g t a0 9) fun x2=>
 br x2.1
 (
  cl (gw g t (Cur.mk x2.2.b x2.2.i x2.2.h)) fun x3=>
  some ((x3.1,(Cur.mk x3.2.b x3.2.i x3.2.h))))
 (
  cl (be g t (Cur.mk x2.2.b x2.2.i x2.2.h) (g.int (g.dlen (t.d_S x1)))) fun x4=>
  gd (((0:Int)≤x4.1∧x4.1<(((g.dlen (t.d_S x1)):Nat):Int)))<|
  gt x1 (g.nat x4.1) fun x5=>
  some ((x5,(Cur.mk x4.2.b x4.2.i x4.2.h))))
theorem vu {g:G} {t:TE} {a0:Cur} {a1:Network} {r:ByteArray×Cur} (hg:g=G.real) (ht:t=TE.real) (h:oQ g t a0 a1=some r):FnM Tryz.prog 70 (.p (Cur.ds t a0)) [.g (Network.rs t a1)] (.c (.r (.v (.string r.1)))) (.p (Cur.ds t r.2)):=by
 obtain⟨X,hX⟩:=aC (.c (.r (.v (.string r.1))):X);obtain⟨Y,hY⟩:=aC (.p (Cur.ds t r.2):AM);rw[←hX,←hY];refine gO (rvs:=rv70) (j:=(ir70 str_k0)) Tryz.func70 rfl (by kernel_rfl) (nb rfl) (by kernel_rfl) ac ?_;intro g2 F hg2 hF;obtain rfl:g2=g:=hg2.unique.trans hg.symm;clear hg2;obtain⟨_⟩:=g2;obtain⟨_⟩:=t
 obtain⟨a0_b,a0_i,a0_h⟩:=a0;obtain⟨a1_Legs,a1_Off,a1_Change⟩:=a1;unfold oQ at h;try dsimp only at h
 obtain⟨s_k0,hs_k0⟩:∃s,str_k0=s:=⟨_,rfl⟩;try rw[hs_k0] at h
 rw[hs_k0];cbv;obtain⟨x1,hx1,h⟩:=af h;try dsimp only at h
 refine ACall.mk _ _ rfl (hF _ _ _ (iv hg ht hx1)) (.inl rfl) (nb rfl) ?_;cbv;obtain⟨x2,hx2,h⟩:=af h;obtain⟨x2_1,⟨x2_2_b,x2_2_i,x2_2_h⟩⟩:=x2;try dsimp only at h
 refine ACallM.mk _ _ _ _ rfl rfl (hF _ _ _ (eC hg ht hx2)) rfl (nb rfl) (nb rfl) ?_;cbv;have hb1:x2_1=true∨x2_1=false:=by cases x2_1<;>simp
 rcases hb1 with hb1|hb1
 ·rw[ab hb1] at h;have hK_:=h;subst hb1;have h:=hK_;clear hK_;cbv;obtain⟨x3,hx3,h⟩:=af h;obtain⟨x3_1,⟨x3_2_b,x3_2_i,x3_2_h⟩⟩:=x3;try dsimp only at h
  refine ACallM.mk _ _ _ _ rfl rfl (hF _ _ _ (lH hg ht hx3)) rfl (nb rfl) (nb rfl) ?_;cbv;obtain rfl:=Option.some.inj h;exact ARetM.mk trivial hX.symm hY.symm
 rw[aa hb1] at h;have hK_:=h;subst hb1;have h:=hK_;clear hK_;cbv;obtain⟨x4,hx4,h⟩:=af h;obtain⟨x4_1,⟨x4_2_b,x4_2_i,x4_2_h⟩⟩:=x4;try dsimp only at h
 refine ACallM.mk _ _ _ _ rfl rfl (hF _ _ _ (ba hg ht hx4)) rfl (nb rfl) (nb rfl) ?_;cbv;obtain⟨hc1,h⟩:=aj h;refine AStep.mk hc1 ?_;cbv;obtain⟨x5,hx5,h⟩:=aD h;try dsimp only at h
 refine AGet.mk _ (kb hg ht hx5) ?_;cbv;obtain rfl:=Option.some.inj h;exact ARetM.mk trivial hX.symm hY.symm
def ir72:J:=js [jm 4 (ki 0)] [0,1] (js [jm 5 1,jm 6 0,jm 7 1,jq 8 (.len false 7),jq 9 (.callm 90 true 6 [8]),ja 10 1 5 9,jk 11 10,jm 4 11] [4] .ret)
def rv72:List RV:=[.t 4]
def eT (g:G) (t:TE) (a0:Cur) (a1:List Int):Option (Int×Cur):=
 cl (be g t a0 (g.llen (t.r_I64 a1))) fun x1=>
 gd (((0:Int)≤x1.1))<|
 gt a1 (g.nat x1.1) fun x2=>
 some ((x2,(Cur.mk x1.2.b x1.2.i x1.2.h)))
theorem eY {g:G} {t:TE} {a0:Cur} {a1:List Int} {r:Int×Cur} (hg:g=G.real) (ht:t=TE.real) (h:eT g t a0 a1=some r):FnM Tryz.prog 72 (.p (Cur.ds t a0)) [.c (.s 1 (t.r_I64 a1))] (.c (.r (.v (.int .i64 r.1)))) (.p (Cur.ds t r.2)):=by
 obtain⟨X,hX⟩:=aC (.c (.r (.v (.int .i64 r.1))):X);obtain⟨Y,hY⟩:=aC (.p (Cur.ds t r.2):AM);rw[←hX,←hY];refine gO (rvs:=rv72) (j:=ir72) Tryz.func72 rfl (by kernel_rfl) (nb rfl) (by kernel_rfl) ac ?_;intro g2 F hg2 hF;obtain rfl:g2=g:=hg2.unique.trans hg.symm;clear hg2;obtain⟨_⟩:=g2;obtain⟨_⟩:=t
 obtain⟨a0_b,a0_i,a0_h⟩:=a0;unfold eT at h;try dsimp only at h
 cbv;obtain⟨x1,hx1,h⟩:=af h;obtain⟨x1_1,⟨x1_2_b,x1_2_i,x1_2_h⟩⟩:=x1;try dsimp only at h
 refine ACallM.mk _ _ _ _ rfl rfl (hF _ _ _ (ba hg ht hx1)) rfl (nb rfl) (nb rfl) ?_;cbv;obtain⟨hc1,h⟩:=aj h;refine AStep.mk hc1 ?_;cbv;obtain⟨x2,hx2,h⟩:=aD h;try dsimp only at h
 refine AGet.mk _ (ei hg ht hx2) ?_;cbv;obtain rfl:=Option.some.inj h;exact ARetM.mk trivial hX.symm hY.symm
def HP:J:=js [jm 2 (ki 0)] [0] (js [jm 3 0,jq 4 (.bslr 1 [(.k (V.i (-1))),(ki 0),(ki 1),(ki 2),(ki 255),(ki 1440),(ki 86400),(ki 86401),(ki 999999999),(ki 1000000000),(ki 1000000001),(.k (V.i (-1000000001))),(ki 9223372036854775807),(.k (V.i (-9223372036854775808)))]),jq 5 (.callm 72 true 3 [4]),jm 2 5] [2] .ret)
def Gf:List RV:=[.t 2]
def nm (g:G) (t:TE) (a0:Cur):Option (Int×Cur):=
 lP ([(-1),0,1,2,255,1440,86400,86401,999999999,1000000000,1000000001,(-1000000001),9223372036854775807,(-9223372036854775808)]) fun(l1:List Int)=>
 cl (eT g t a0 l1) fun x1=>
 some ((x1.1,(Cur.mk x1.2.b x1.2.i x1.2.h)))
theorem AE {g:G} {t:TE} {a0:Cur} {r:Int×Cur} (hg:g=G.real) (ht:t=TE.real) (h:nm g t a0=some r):FnM Tryz.prog 125 (.p (Cur.ds t a0)) [] (.c (.r (.v (.int .i64 r.1)))) (.p (Cur.ds t r.2)):=by
 obtain⟨X,hX⟩:=aC (.c (.r (.v (.int .i64 r.1))):X);obtain⟨Y,hY⟩:=aC (.p (Cur.ds t r.2):AM);rw[←hX,←hY];refine gO (rvs:=Gf) (j:=HP) Tryz.func125 rfl (by kernel_rfl) (nb rfl) (by kernel_rfl) ac ?_;intro g2 F hg2 hF;obtain rfl:g2=g:=hg2.unique.trans hg.symm;clear hg2;obtain⟨_⟩:=g2;obtain⟨_,_,_,_,_,_,r_I64⟩:=t
 obtain⟨a0_b,a0_i,a0_h⟩:=a0;unfold nm at h;try dsimp only at h
 cbv;obtain⟨l1,hl1,h⟩:=ah h;try dsimp only at h
 refine AVal.mk (r_I64 l1) (by rw[←hl1];exact fV hg ht [(-1),0,1,2,255,1440,86400,86401,999999999,1000000000,1000000001,(-1000000001),9223372036854775807,(-9223372036854775808)]) ?_;cbv;obtain⟨x1,hx1,h⟩:=af h;obtain⟨x1_1,⟨x1_2_b,x1_2_i,x1_2_h⟩⟩:=x1;try dsimp only at h
 refine ACallM.mk _ _ _ _ rfl rfl (hF _ _ _ (eY hg ht hx1)) rfl (nb rfl) (nb rfl) ?_;cbv;obtain rfl:=Option.some.inj h;exact ARetM.mk trivial hX.symm hY.symm
def ir71:J:=js [jm 2 (ki 0)] [0] (.seq (js [jm 3 0,jq 4 (.callm 67 true 3 [(ki 9)])] [0,4] (.cond 4 (js [jm 5 0,jq 6 (.callm 125 true 5 []),jm 2 6] [2] .ret) .skip)) (js [jm 7 0,jq 8 (.callm 90 true 7 [(ki 200)]),jb 9 .mul .i (ki 60) 8,jm 2 9] [2] .ret))
def rv71:List RV:=[.t 2]
def rF (g:G) (t:TE) (a0:Cur):Option (Int×Cur):=
 cl (ef g t a0 9) fun x1=>
 br x1.1
 (
  cl (nm g t (Cur.mk x1.2.b x1.2.i x1.2.h)) fun x2=>
  some ((x2.1,(Cur.mk x2.2.b x2.2.i x2.2.h))))
 (
  cl (be g t (Cur.mk x1.2.b x1.2.i x1.2.h) 200) fun x3=>
  some (((g.wrap .i64 (g.mul 60 x3.1)),(Cur.mk x3.2.b x3.2.i x3.2.h))))
theorem BZ {g:G} {t:TE} {a0:Cur} {r:Int×Cur} (hg:g=G.real) (ht:t=TE.real) (h:rF g t a0=some r):FnM Tryz.prog 71 (.p (Cur.ds t a0)) [] (.c (.r (.v (.int .i64 r.1)))) (.p (Cur.ds t r.2)):=by
 obtain⟨X,hX⟩:=aC (.c (.r (.v (.int .i64 r.1))):X);obtain⟨Y,hY⟩:=aC (.p (Cur.ds t r.2):AM);rw[←hX,←hY];refine gO (rvs:=rv71) (j:=ir71) Tryz.func71 rfl (by kernel_rfl) (nb rfl) (by kernel_rfl) ac ?_;intro g2 F hg2 hF;obtain rfl:g2=g:=hg2.unique.trans hg.symm;clear hg2;obtain⟨_⟩:=g2;obtain⟨_⟩:=t
 obtain⟨a0_b,a0_i,a0_h⟩:=a0;unfold rF at h;try dsimp only at h
 cbv;obtain⟨x1,hx1,h⟩:=af h;obtain⟨x1_1,⟨x1_2_b,x1_2_i,x1_2_h⟩⟩:=x1;try dsimp only at h
 refine ACallM.mk _ _ _ _ rfl rfl (hF _ _ _ (eC hg ht hx1)) rfl (nb rfl) (nb rfl) ?_;cbv;have hb1:x1_1=true∨x1_1=false:=by cases x1_1<;>simp
 rcases hb1 with hb1|hb1
 ·rw[ab hb1] at h;have hK_:=h;subst hb1;have h:=hK_;clear hK_;cbv;obtain⟨x2,hx2,h⟩:=af h;obtain⟨x2_1,⟨x2_2_b,x2_2_i,x2_2_h⟩⟩:=x2;try dsimp only at h
  refine ACallM.mk _ _ _ _ rfl rfl (hF _ _ _ (AE hg ht hx2)) rfl (nb rfl) (nb rfl) ?_;cbv;obtain rfl:=Option.some.inj h;exact ARetM.mk trivial hX.symm hY.symm
 rw[aa hb1] at h;have hK_:=h;subst hb1;have h:=hK_;clear hK_;cbv;obtain⟨x3,hx3,h⟩:=af h;obtain⟨x3_1,⟨x3_2_b,x3_2_i,x3_2_h⟩⟩:=x3;try dsimp only at h
 refine ACallM.mk _ _ _ _ rfl rfl (hF _ _ _ (ba hg ht hx3)) rfl (nb rfl) (nb rfl) ?_;cbv;obtain rfl:=Option.some.inj h;exact ARetM.mk trivial hX.symm hY.symm
def GH (s_k1 s_k2 s_k3 s_k4:ByteArray):J:=js [jq 2 (.alloc [.r (.v (.string .empty)),.r (.v (.string .empty)),.r (.v (.int .i64 0)),.r (.v (.int .i64 0)),.r (.v (.int .i64 0)),.r (.v (.int .i64 0))])] [0,2] (js [jm 4 0,jq 5 (.callm 124 true 4 []),jm 6 0,jq 7 (.callm 124 true 6 []),jm 8 0,jq 9 (.callm 90 true 8 [(ki 48)]),jb 10 .mul .i (ki 30) 9,jm 11 0,jq 12 (.callm 90 true 11 [(ki 40)]),jb 13 .add .i (ki 1) 12,jb 14 .mul .i (ki 30) 13,jm 15 0,jq 16 (.callm 90 true 15 [(ki 127)]),jb 17 .add .i (ki 1) 16,jm 18 0,jq 19 (.callm 90 true 18 [(ki 60)]),jb 20 .mul .i (ki 1000) 19,jq 21 (.bld [.r (.v (.string .empty)),.r (.v (.string .empty)),.r (.v (.int .i64 0)),.r (.v (.int .i64 0)),.r (.v (.int .i64 0)),.r (.v (.int .i64 0))] [(0,1,5),(1,1,7),(2,1,10),(3,1,14),(4,1,17),(5,1,20)]),jq 3 (.alloc [.r (.v (.string .empty)),.r (.v (.string .empty)),.r (.v (.int .i64 0)),.r (.v (.int .i64 0)),.r (.v (.int .i64 0)),.r (.v (.int .i64 0))]),jp (.st 6 3 21)] [0,2,3] (.seq (.bl 0 (.seq (js [jf 22 0 3,jk 23 22,jf 24 1 3,jk 25 24,jb 26 .eql .s 23 25] [0,2,3,26] (.cond 26 .skip (.exit 0))) (.block 1 (js [jm 27 0,jq 28 (.bslr 1 [(.k (.c (.r (.v (.string s_k1))))),(.k (.c (.r (.v (.string s_k2))))),(.k (.c (.r (.v (.string s_k3)))))]),jq 29 (.callm 155 true 27 [28]),jf 30 1 3,jp (.st 1 30 29)] [0,2,3] (js [jf 31 0 3,jk 32 31,jf 33 1 3,jk 34 33,jb 35 .eql .s 32 34] [0,2,3,35] (.cond 35 (.reg none [jf 36 0 3,jp (.st 1 36 (.k (.c (.r (.v (.string s_k4))))))] [0,2,3]) .skip)))))) (.seq (js [jm 37 0,jq 38 (.callm 67 true 37 [(ki 2)])] [0,2,3,38] (.cond 38 (.reg none [jf 39 4 3,jp (.st 1 39 (ki 127))] [0,2,3]) .skip)) (.seq (js [jm 40 0,jq 41 (.callm 67 true 40 [(ki 9)])] [0,2,3,41] (.cond 41 (.reg none [jm 42 0,jq 43 (.bslr 1 [(ki 1),(ki 1440),(ki 4320)]),jq 44 (.callm 72 true 42 [43]),jf 45 3 3,jp (.st 1 45 44)] [2,3]) .skip)) (js [jl 46 6 3,jp (.st 6 2 46)] [2] .ret)))))
def Hb:List RV:=[.c 2 true 6]
def dE (g:G) (t:TE):Nat→List Int→Int→Int→ByteArray→ByteArray→Option ((List Int)×Int×Int×ByteArray×ByteArray)
 |0,_,_,_,_,_=>none
 |n1+1,v1,v2,v3,v4,v5=>
  br (g.seq v4 v5)
  (
   lP ([lQ,lp,lI]) fun(l1:List ByteArray)=>
   cl (md g t (Cur.mk v1 v2 v3) l1) fun x7=>
   br (g.seq v4 x7.1)
   (
    dE g t n1 x7.2.b x7.2.i x7.2.h k9 x7.1)
   (
    dE g t n1 x7.2.b x7.2.i x7.2.h v4 x7.1))
  (
   some (v1,v2,v3,v4,v5))
def nX (g:G) (t:TE) (a0:Cur):Option (Leg×Cur):=
 cl (gw g t a0) fun x1=>
 cl (gw g t (Cur.mk x1.2.b x1.2.i x1.2.h)) fun x2=>
 cl (be g t (Cur.mk x2.2.b x2.2.i x2.2.h) 48) fun x3=>
 cl (be g t (Cur.mk x3.2.b x3.2.i x3.2.h) 40) fun x4=>
 cl (be g t (Cur.mk x4.2.b x4.2.i x4.2.h) 127) fun x5=>
 cl (be g t (Cur.mk x5.2.b x5.2.i x5.2.h) 60) fun x6=>
 cl (dE g t 1000000000 x6.2.b x6.2.i x6.2.h x1.1 x2.1) fun y1=>
 cl (ef g t (Cur.mk y1.1 y1.2.1 y1.2.2.1) 2) fun x8=>
 br x8.1
 (
  cl (ef g t (Cur.mk x8.2.b x8.2.i x8.2.h) 9) fun x9=>
  br x9.1
  (
   lP ([1,1440,4320]) fun(l2:List Int)=>
   cl (eT g t (Cur.mk x9.2.b x9.2.i x9.2.h) l2) fun x10=>
   some (((Leg.mk y1.2.2.2.1 y1.2.2.2.2 (g.wrap .i64 (g.mul 30 x3.1)) x10.1 127 (g.wrap .i64 (g.mul 1000 x6.1))),(Cur.mk x10.2.b x10.2.i x10.2.h))))
  (
   some (((Leg.mk y1.2.2.2.1 y1.2.2.2.2 (g.wrap .i64 (g.mul 30 x3.1)) (g.wrap .i64 (g.mul 30 (g.wrap .i64 (g.add 1 x4.1)))) 127 (g.wrap .i64 (g.mul 1000 x6.1))),(Cur.mk x9.2.b x9.2.i x9.2.h)))))
 (
  cl (ef g t (Cur.mk x8.2.b x8.2.i x8.2.h) 9) fun x11=>
  br x11.1
  (
   lP ([1,1440,4320]) fun(l3:List Int)=>
   cl (eT g t (Cur.mk x11.2.b x11.2.i x11.2.h) l3) fun x12=>
   some (((Leg.mk y1.2.2.2.1 y1.2.2.2.2 (g.wrap .i64 (g.mul 30 x3.1)) x12.1 (g.wrap .i64 (g.add 1 x5.1)) (g.wrap .i64 (g.mul 1000 x6.1))),(Cur.mk x12.2.b x12.2.i x12.2.h))))
  (
   some (((Leg.mk y1.2.2.2.1 y1.2.2.2.2 (g.wrap .i64 (g.mul 30 x3.1)) (g.wrap .i64 (g.mul 30 (g.wrap .i64 (g.add 1 x4.1)))) (g.wrap .i64 (g.add 1 x5.1)) (g.wrap .i64 (g.mul 1000 x6.1))),(Cur.mk x11.2.b x11.2.i x11.2.h)))))
theorem Af {g:G} {t:TE} {a0:Cur} {r:Leg×Cur} (hg:g=G.real) (ht:t=TE.real) (h:nX g t a0=some r):FnM Tryz.prog 121 (.p (Cur.ds t a0)) [] (.g (Leg.ds t r.1)) (.p (Cur.ds t r.2)):=by
 obtain⟨X,hX⟩:=aC (.g (Leg.ds t r.1):X);obtain⟨Y,hY⟩:=aC (.p (Cur.ds t r.2):AM);rw[←hX,←hY];refine gO (rvs:=Hb) (j:=(GH lQ lp lI k9)) Tryz.func121 rfl (by kernel_rfl) (nb rfl) (by kernel_rfl) ac ?_;intro g2 F hg2 hF;obtain rfl:g2=g:=hg2.unique.trans hg.symm;clear hg2;obtain⟨wrap,_,_,_,_,_,_,_,_,_,_,_,_,add,_,mul,_,seq⟩:=g2;obtain⟨r_U8,_,_,_,_,_,r_I64,_,_,_,_,_,r_S⟩:=t
 obtain⟨a0_b,a0_i,a0_h⟩:=a0;unfold nX at h;try dsimp only at h
 obtain⟨s_k1,hs_k1⟩:∃s,lQ=s:=⟨_,rfl⟩;try rw[hs_k1] at h
 rw[hs_k1];obtain⟨s_k2,hs_k2⟩:∃s,lp=s:=⟨_,rfl⟩;try rw[hs_k2] at h
 rw[hs_k2];obtain⟨s_k3,hs_k3⟩:∃s,lI=s:=⟨_,rfl⟩;try rw[hs_k3] at h
 rw[hs_k3];obtain⟨s_k4,hs_k4⟩:∃s,k9=s:=⟨_,rfl⟩;try rw[hs_k4] at h
 rw[hs_k4];cbv;obtain⟨x1,hx1,h⟩:=af h;obtain⟨x1_1,⟨x1_2_b,x1_2_i,x1_2_h⟩⟩:=x1;try dsimp only at h
 refine ACallM.mk _ _ _ _ rfl rfl (hF _ _ _ (lH hg ht hx1)) rfl (nb rfl) (nb rfl) ?_;cbv;obtain⟨x2,hx2,h⟩:=af h;obtain⟨x2_1,⟨x2_2_b,x2_2_i,x2_2_h⟩⟩:=x2;try dsimp only at h
 refine ACallM.mk _ _ _ _ rfl rfl (hF _ _ _ (lH hg ht hx2)) rfl (nb rfl) (nb rfl) ?_;cbv;obtain⟨x3,hx3,h⟩:=af h;obtain⟨x3_1,⟨x3_2_b,x3_2_i,x3_2_h⟩⟩:=x3;try dsimp only at h
 refine ACallM.mk _ _ _ _ rfl rfl (hF _ _ _ (ba hg ht hx3)) rfl (nb rfl) (nb rfl) ?_;cbv;obtain⟨x4,hx4,h⟩:=af h;obtain⟨x4_1,⟨x4_2_b,x4_2_i,x4_2_h⟩⟩:=x4;try dsimp only at h
 refine ACallM.mk _ _ _ _ rfl rfl (hF _ _ _ (ba hg ht hx4)) rfl (nb rfl) (nb rfl) ?_;cbv;obtain⟨x5,hx5,h⟩:=af h;obtain⟨x5_1,⟨x5_2_b,x5_2_i,x5_2_h⟩⟩:=x5;try dsimp only at h
 refine ACallM.mk _ _ _ _ rfl rfl (hF _ _ _ (ba hg ht hx5)) rfl (nb rfl) (nb rfl) ?_;cbv;obtain⟨x6,hx6,h⟩:=af h;obtain⟨x6_1,⟨x6_2_b,x6_2_i,x6_2_h⟩⟩:=x6;try dsimp only at h
 refine ACallM.mk _ _ _ _ rfl rfl (hF _ _ _ (ba hg ht hx6)) rfl (nb rfl) (nb rfl) ?_;cbv;obtain⟨o1,ho1,h⟩:=af h;try dsimp only at h
 try rw[hg] at ho1
 try rw[ht] at ho1
 refine ABL.mk {p:Nat×(List Int)×Int×Int×ByteArray×ByteArray//dE G.real TE.real p.1 p.2.1 p.2.2.1 p.2.2.2.1 p.2.2.2.2.1 p.2.2.2.2.2=some o1} (fun⟨⟨n1,v1,v2,v3,v4,v5⟩,_⟩=>({sl:=[(0,.c (.p 3 3 0 0)),(2,.c (.p 0 6 0 0)),(3,.c (.p 1 6 0 0))],tab:=[(0,some (.foc 6 [] [.r (.v (.string ByteArray.empty)),.r (.v (.string ByteArray.empty)),.r (.v (.int .i64 0)),.r (.v (.int .i64 0)),.r (.v (.int .i64 0)),.r (.v (.int .i64 0))] [])),(1,some (.foc 6 [] [.r (.v (.string v4)),.r (.v (.string v5)),.r (.v (.int .i64 (wrap .i64 (mul 30 x3_1)))),.r (.v (.int .i64 (wrap .i64 (mul 30 (wrap .i64 (add 1 x4_1)))))),.r (.v (.int .i64 (wrap .i64 (add 1 x5_1)))),.r (.v (.int .i64 (wrap .i64 (mul 1000 x6_1))))] [])),(3,some (.foc 3 [] [.r (.s 1 (r_U8 v1)),.r (.v (.int .i64 v2)),.r (.v (.int .i64 v3))] []))]}:St)) 4 (fun p=>p.1.1) ⟨(1000000000,x6_2_b,x6_2_i,x6_2_h,x1_1,x2_1),ho1⟩ ((List Int)×Int×Int×ByteArray×ByteArray) (fun⟨y1_1,y1_2_1,y1_2_2_1,y1_2_2_2_1,y1_2_2_2_2⟩=>({sl:=[(0,.c (.p 3 3 0 0)),(2,.c (.p 0 6 0 0)),(3,.c (.p 1 6 0 0))],tab:=[(0,some (.foc 6 [] [.r (.v (.string ByteArray.empty)),.r (.v (.string ByteArray.empty)),.r (.v (.int .i64 0)),.r (.v (.int .i64 0)),.r (.v (.int .i64 0)),.r (.v (.int .i64 0))] [])),(1,some (.foc 6 [] [.r (.v (.string y1_2_2_2_1)),.r (.v (.string y1_2_2_2_2)),.r (.v (.int .i64 (wrap .i64 (mul 30 x3_1)))),.r (.v (.int .i64 (wrap .i64 (mul 30 (wrap .i64 (add 1 x4_1)))))),.r (.v (.int .i64 (wrap .i64 (add 1 x5_1)))),.r (.v (.int .i64 (wrap .i64 (mul 1000 x6_1))))] [])),(3,some (.foc 3 [] [.r (.s 1 (r_U8 y1_1)),.r (.v (.int .i64 y1_2_1)),.r (.v (.int .i64 y1_2_2_1))] []))]}:St)) 4 (fun y=>o1=y) ?_ ?_ ?_
 ·refine Wk.of [(0,some 4),(1,some 308),(3,some 3)] rfl rfl ?_ ?_
  ·cbv;all_goals exact⟨⟨_,rfl,rfl⟩,⟨_,rfl,rfl⟩,⟨_,rfl,rfl⟩,trivial⟩
  cbv;all_goals exact⟨⟨_,rfl,_,rfl,rfl,rfl,rfl,rfl,rfl,rfl,trivial⟩,⟨_,rfl,_,rfl,rfl,rfl,rfl,rfl,rfl,rfl,trivial⟩,⟨_,rfl,_,rfl,rfl,rfl,rfl,trivial⟩,trivial⟩
 ·rintro⟨⟨n1,v1,v2,v3,v4,v5⟩,h_1⟩ hq1;try dsimp only at h_1
  clear hq1;rcases n1 with _|n1
  ·rw[dE] at h_1;cases h_1
  rw[dE] at h_1;try rw[←hg] at h_1
  try rw[←ht] at h_1
  try dsimp only at h_1
  try rw[hs_k1] at h_1
  try rw[hs_k2] at h_1
  try rw[hs_k3] at h_1
  try rw[hs_k4] at h_1
  cbv
  cases hb1:(seq v4 v5)
  ·rw[aa hb1] at h_1;cbv;refine⟨(v1,v2,v3,v4,v5),Wk.of [(0,some 0),(1,some 1),(3,some 3)] rfl rfl ?_ ?_,(Option.some.inj h_1).symm⟩
   ·cbv;all_goals exact⟨⟨_,rfl,rfl⟩,⟨_,rfl,rfl⟩,⟨_,rfl,rfl⟩,trivial⟩
   cbv;all_goals exact⟨⟨_,rfl,_,rfl,rfl,rfl,rfl,rfl,rfl,rfl,trivial⟩,⟨_,rfl,_,rfl,rfl,rfl,rfl,rfl,rfl,rfl,trivial⟩,⟨_,rfl,_,rfl,rfl,rfl,rfl,trivial⟩,trivial⟩
  rw[ab hb1] at h_1;cbv;obtain⟨l1,hl1,h_1⟩:=ah h_1;try dsimp only at h_1
  refine AVal.mk (r_S l1) (by rw[←hl1];exact Ci hg ht [s_k1,s_k2,s_k3]) ?_;cbv;obtain⟨x7,hx7,h_1⟩:=af h_1;obtain⟨x7_1,⟨x7_2_b,x7_2_i,x7_2_h⟩⟩:=x7;try dsimp only at h_1
  refine ACallM.mk _ _ _ _ rfl rfl (hF _ _ _ (td hg ht hx7)) rfl (nb rfl) (nb rfl) ?_;cbv
  cases hb2:(seq v4 x7_1)
  ·rw[aa hb2] at h_1;cbv;try rw[hg] at h_1
   try rw[ht] at h_1
   refine⟨⟨(n1,x7_2_b,x7_2_i,x7_2_h,v4,x7_1),h_1⟩,Wk.of [(0,some 0),(1,some 1),(3,some 3)] rfl rfl ?_ ?_,Nat.lt_succ_self _⟩
   ·cbv;all_goals exact⟨⟨_,rfl,rfl⟩,⟨_,rfl,rfl⟩,⟨_,rfl,rfl⟩,trivial⟩
   cbv;all_goals exact⟨⟨_,rfl,_,rfl,rfl,rfl,rfl,rfl,rfl,rfl,trivial⟩,⟨_,rfl,_,rfl,rfl,rfl,rfl,rfl,rfl,rfl,trivial⟩,⟨_,rfl,_,rfl,rfl,rfl,rfl,trivial⟩,trivial⟩
  rw[ab hb2] at h_1;cbv;try rw[hg] at h_1
  try rw[ht] at h_1
  refine⟨⟨(n1,x7_2_b,x7_2_i,x7_2_h,s_k4,x7_1),h_1⟩,Wk.of [(0,some 0),(1,some 1),(3,some 3)] rfl rfl ?_ ?_,Nat.lt_succ_self _⟩
  ·cbv;all_goals exact⟨⟨_,rfl,rfl⟩,⟨_,rfl,rfl⟩,⟨_,rfl,rfl⟩,trivial⟩
  cbv;all_goals exact⟨⟨_,rfl,_,rfl,rfl,rfl,rfl,rfl,rfl,rfl,trivial⟩,⟨_,rfl,_,rfl,rfl,rfl,rfl,rfl,rfl,rfl,trivial⟩,⟨_,rfl,_,rfl,rfl,rfl,rfl,trivial⟩,trivial⟩
 rintro⟨y1_1,y1_2_1,y1_2_2_1,y1_2_2_2_1,y1_2_2_2_2⟩ hy1;replace hy1:=hy1.symm;subst hy1;try dsimp only[lr,lrL,lrp,aZ] at h
 cbv;obtain⟨x8,hx8,h⟩:=af h;obtain⟨x8_1,⟨x8_2_b,x8_2_i,x8_2_h⟩⟩:=x8;try dsimp only at h
 refine ACallM.mk _ _ _ _ rfl rfl (hF _ _ _ (eC hg ht hx8)) rfl (nb rfl) (nb rfl) ?_;cbv;have hb3:x8_1=true∨x8_1=false:=by cases x8_1<;>simp
 rcases hb3 with hb3|hb3
 ·rw[ab hb3] at h;have hK_:=h;subst hb3;have h:=hK_;clear hK_;cbv;obtain⟨x9,hx9,h⟩:=af h;obtain⟨x9_1,⟨x9_2_b,x9_2_i,x9_2_h⟩⟩:=x9;try dsimp only at h
  refine ACallM.mk _ _ _ _ rfl rfl (hF _ _ _ (eC hg ht hx9)) rfl (nb rfl) (nb rfl) ?_;cbv;have hb4:x9_1=true∨x9_1=false:=by cases x9_1<;>simp
  rcases hb4 with hb4|hb4
  ·rw[ab hb4] at h;have hK_:=h;subst hb4;have h:=hK_;clear hK_;cbv;obtain⟨l2,hl2,h⟩:=ah h;try dsimp only at h
   refine AVal.mk (r_I64 l2) (by rw[←hl2];exact fV hg ht [1,1440,4320]) ?_;cbv;obtain⟨x10,hx10,h⟩:=af h;obtain⟨x10_1,⟨x10_2_b,x10_2_i,x10_2_h⟩⟩:=x10;try dsimp only at h
   refine ACallM.mk _ _ _ _ rfl rfl (hF _ _ _ (eY hg ht hx10)) rfl (nb rfl) (nb rfl) ?_;cbv;obtain rfl:=Option.some.inj h;exact ARetM.mk trivial hX.symm hY.symm
  rw[aa hb4] at h;have hK_:=h;subst hb4;have h:=hK_;clear hK_;cbv;obtain rfl:=Option.some.inj h;exact ARetM.mk trivial hX.symm hY.symm
 rw[aa hb3] at h;have hK_:=h;subst hb3;have h:=hK_;clear hK_;cbv;obtain⟨x11,hx11,h⟩:=af h;obtain⟨x11_1,⟨x11_2_b,x11_2_i,x11_2_h⟩⟩:=x11;try dsimp only at h
 refine ACallM.mk _ _ _ _ rfl rfl (hF _ _ _ (eC hg ht hx11)) rfl (nb rfl) (nb rfl) ?_;cbv;have hb5:x11_1=true∨x11_1=false:=by cases x11_1<;>simp
 rcases hb5 with hb5|hb5
 ·rw[ab hb5] at h;have hK_:=h;subst hb5;have h:=hK_;clear hK_;cbv;obtain⟨l3,hl3,h⟩:=ah h;try dsimp only at h
  refine AVal.mk (r_I64 l3) (by rw[←hl3];exact fV hg ht [1,1440,4320]) ?_;cbv;obtain⟨x12,hx12,h⟩:=af h;obtain⟨x12_1,⟨x12_2_b,x12_2_i,x12_2_h⟩⟩:=x12;try dsimp only at h
  refine ACallM.mk _ _ _ _ rfl rfl (hF _ _ _ (eY hg ht hx12)) rfl (nb rfl) (nb rfl) ?_;cbv;obtain rfl:=Option.some.inj h;exact ARetM.mk trivial hX.symm hY.symm
 rw[aa hb5] at h;have hK_:=h;subst hb5;have h:=hK_;clear hK_;cbv;obtain rfl:=Option.some.inj h;exact ARetM.mk trivial hX.symm hY.symm
def ir65:J:=js [jq 4 (.alloc [.n 6,.n 1,.r (.v (.int .i64 0))])] [0,1,4] (js [jm 8 0,jq 9 (.callm 90 true 8 [(ki 9)]),jb 10 .mul .i (ki 15) 9,jq 11 (.bld [.n 6,.n 1,.r (.v (.int .i64 0))] [(2,1,10)]),jq 5 (.alloc [.n 6,.n 1,.r (.v (.int .i64 0))]),jp (.st 3 5 11)] [0,1,4,5] (.seq (js [jm 12 0,jm 13 1,jq 14 (.callm 90 true 12 [13]),jb 15 .add .i (ki 1) 14,jm 6 15] [0,1,4,5,6] (.bl 0 (.seq (js [jm 16 6,jb 17 .gtr .i 16 (ki 0)] [0,1,4,5,6,17] (.cond 17 .skip (.exit 0))) (.seq (.block 1 (js [jm 20 0,jq 21 (.callm 121 true 20 []),jq 7 (.alloc [.r (.v (.string .empty)),.r (.v (.string .empty)),.r (.v (.int .i64 0)),.r (.v (.int .i64 0)),.r (.v (.int .i64 0)),.r (.v (.int .i64 0))]),jp (.st 6 7 21)] [0,1,4,5,6,7] (js [jf 22 0 5,jk 23 22,jl 24 6 7,jq 25 (.bsl 6 [24]),jq 26 (.app 6 64 true 23 25),jf 27 0 5,jp (.st 1 27 26)] [0,1,4,5,6,7] (js [jm 28 0,jq 29 (.callm 67 true 28 [(ki 3)]),jm 30 29,ju 31 30 (.fa 0 5),ju 32 30 (.ld false 1 31),ju 33 30 (.len false 32),ju 34 30 (.mv 1),ju 35 30 (.bin .lss .i 33 34),jq 36 (.pick 30 35 kf)] [0,1,4,5,6,7,36] (.cond 36 (js [jf 37 0 5,jk 38 37,jf 39 0 5,jk 40 39,jq 41 (.len false 40),jb 42 .sub .i 41 (ki 1),ja 43 6 38 42,jf 44 1 43,jk 45 44,jf 46 0 7,jp (.st 1 46 45)] [0,1,4,5,6,7] (js [jf 47 0 5,jk 48 47,jf 49 0 5,jk 50 49,jq 51 (.len false 50),jb 52 .sub .i 51 (ki 1),ja 53 6 48 52,jf 54 0 53,jk 55 54,jf 56 1 7,jp (.st 1 56 55)] [0,1,4,5,6,7] (.seq (.reg (some [[],[0],[],[2],[2,3],[0,1,2,3,4],[0,1,2,3,4,5],[0,1,2,3,4,5,6],[0,1,2,3,4,5,6,7]]) [jf 57 2 7,jk 58 57,jm 59 0,jq 60 (.callm 90 true 59 [(ki 20)]),jb 61 .mul .i (ki 60) 60,jb 62 .add .i 58 61,jb 63 .rem .i 62 (ki 1440),jf 64 2 7,jp (.st 1 64 63)] [0,1,4,5,6,7]) (.reg none [jf 65 0 5,jk 66 65,jl 67 6 7,jq 68 (.bsl 6 [67]),jq 69 (.app 6 64 true 66 68),jf 70 0 5,jp (.st 1 70 69)] [0,1,4,5,6])))) .skip))))) (.reg none [jm 18 6,jb 19 .sub .i 18 (ki 1),jm 6 19] [0,1,4,5,6]))))) (.seq (js [jm 71 0,jq 72 (.callm 67 true 71 [(ki 2)])] [0,4,5,72] (.cond 72 (.reg none [jm 73 0,jq 74 (.callm 90 true 73 [(ki 3)]),jm 75 0,jq 76 (.callm 90 true 75 [(ki 4)]),jb 77 .add .i (ki 3) 76,jq 78 (.bsl 1 [74,77]),jf 79 1 5,jp (.st 1 79 78)] [4,5]) .skip)) (js [jl 80 3 5,jp (.st 3 4 80)] [4] .ret))))
def rv65:List RV:=[.c 4 true 3]
def cz (g:G) (t:TE) (a1:Int):Nat→List Int→Int→Int→List Leg→Int→Option ((List Int)×Int×Int×List Leg)
 |0,_,_,_,_,_=>none
 |n1+1,v1,v2,v3,w1,v4=>
  br (g.lt 0 v4)
  (
   cl (nX g t (Cur.mk v1 v2 v3)) fun x3=>
   lP ([(Leg.mk x3.1.From x3.1.To x3.1.Start x3.1.Takes x3.1.Days x3.1.Room)]) fun(l1:List Leg)=>
   gd (((w1.length+l1.length)*64≤70368744177664))<|
   lP (w1++l1) fun(l2:List Leg)=>
   cl (ef g t (Cur.mk x3.2.b x3.2.i x3.2.h) 3) fun x4=>
   br x4.1
   (
    br (g.lt (g.int (g.dlen (t.d_Leg l2))) a1)
    (
     gd (((0:Int)≤(g.wrap .i64 (g.sub (g.int (g.dlen (t.d_Leg l2))) 1))∧(g.wrap .i64 (g.sub (g.int (g.dlen (t.d_Leg l2))) 1))<(((g.dlen (t.d_Leg l2)):Nat):Int)))<|
     gt l2 (g.nat (g.wrap .i64 (g.sub (g.int (g.dlen (t.d_Leg l2))) 1))) fun x5=>
     gd (((0:Int)≤(g.wrap .i64 (g.sub (g.int (g.dlen (t.d_Leg l2))) 1))∧(g.wrap .i64 (g.sub (g.int (g.dlen (t.d_Leg l2))) 1))<(((g.dlen (t.d_Leg l2)):Nat):Int)))<|
     cl (be g t (Cur.mk x4.2.b x4.2.i x4.2.h) 20) fun x6=>
     lP ([(Leg.mk x5.To x5.From (g.rem (g.wrap .i64 (g.add x3.1.Start (g.wrap .i64 (g.mul 60 x6.1)))) 1440) x3.1.Takes x3.1.Days x3.1.Room)]) fun(l3:List Leg)=>
     gd (((l2.length+l3.length)*64≤70368744177664))<|
     lP (l2++l3) fun(l4:List Leg)=>
     cz g t a1 n1 x6.2.b x6.2.i x6.2.h l4 (g.wrap .i64 (g.sub v4 1)))
    (
     cz g t a1 n1 x4.2.b x4.2.i x4.2.h l2 (g.wrap .i64 (g.sub v4 1))))
   (
    cz g t a1 n1 x4.2.b x4.2.i x4.2.h l2 (g.wrap .i64 (g.sub v4 1))))
  (
   some (v1,v2,v3,w1))
def jQ (g:G) (t:TE) (a0:Cur) (a1:Int):Option (Network×Cur):=
 cl (be g t a0 9) fun x1=>
 cl (be g t (Cur.mk x1.2.b x1.2.i x1.2.h) a1) fun x2=>
 cl (cz g t a1 1000000000 x2.2.b x2.2.i x2.2.h [] (g.wrap .i64 (g.add 1 x2.1))) fun y1=>
 cl (ef g t (Cur.mk y1.1 y1.2.1 y1.2.2.1) 2) fun x7=>
 br x7.1
 (
  cl (be g t (Cur.mk x7.2.b x7.2.i x7.2.h) 3) fun x8=>
  cl (be g t (Cur.mk x8.2.b x8.2.i x8.2.h) 4) fun x9=>
  lP ([x8.1,(g.wrap .i64 (g.add 3 x9.1))]) fun(l5:List Int)=>
  some (((Network.mk y1.2.2.2 l5 (g.wrap .i64 (g.mul 15 x1.1))),(Cur.mk x9.2.b x9.2.i x9.2.h))))
 (
  some (((Network.mk y1.2.2.2 [] (g.wrap .i64 (g.mul 15 x1.1))),(Cur.mk x7.2.b x7.2.i x7.2.h))))
theorem qV {g:G} {t:TE} {a0:Cur} {a1:Int} {r:Network×Cur} (hg:g=G.real) (ht:t=TE.real) (h:jQ g t a0 a1=some r):FnM Tryz.prog 65 (.p (Cur.ds t a0)) [.c (.v (.int .i64 a1))] (.g (Network.ds t r.1)) (.p (Cur.ds t r.2)):=by
 obtain⟨X,hX⟩:=aC (.g (Network.ds t r.1):X);obtain⟨Y,hY⟩:=aC (.p (Cur.ds t r.2):AM);rw[←hX,←hY];refine gO (rvs:=rv65) (j:=ir65) Tryz.func65 rfl (by kernel_rfl) (nb rfl) (by kernel_rfl) ac ?_;intro g2 F hg2 hF;obtain rfl:g2=g:=hg2.unique.trans hg.symm;clear hg2;obtain⟨wrap,lt,_,_,_,rem,_,_,_,_,_,_,int,add,sub,mul,_,_,_,_,_,_,_,_,dlen⟩:=g2;obtain⟨r_U8,_,_,_,_,d_Leg,_,d_I64⟩:=t
 obtain⟨a0_b,a0_i,a0_h⟩:=a0;have hnil_Leg:d_Leg []=[]:=t6 ht;have hnil_I64:d_I64 []=[]:=lS ht;unfold jQ at h;try dsimp only at h
 cbv;obtain⟨x1,hx1,h⟩:=af h;obtain⟨x1_1,⟨x1_2_b,x1_2_i,x1_2_h⟩⟩:=x1;try dsimp only at h
 refine ACallM.mk _ _ _ _ rfl rfl (hF _ _ _ (ba hg ht hx1)) rfl (nb rfl) (nb rfl) ?_;cbv;obtain⟨x2,hx2,h⟩:=af h;obtain⟨x2_1,⟨x2_2_b,x2_2_i,x2_2_h⟩⟩:=x2;try dsimp only at h
 refine ACallM.mk _ _ _ _ rfl rfl (hF _ _ _ (ba hg ht hx2)) rfl (nb rfl) (nb rfl) ?_;cbv;obtain⟨o1,ho1,h⟩:=af h;try dsimp only at h
 try rw[hg] at ho1
 try rw[ht] at ho1
 refine ABL.mk {p:Nat×(List Int)×Int×Int×(List Leg)×Int//cz G.real TE.real a1 p.1 p.2.1 p.2.2.1 p.2.2.2.1 p.2.2.2.2.1 p.2.2.2.2.2=some o1} (fun⟨⟨n1,v1,v2,v3,w1,v4⟩,_⟩=>({sl:=[(0,.c (.p 3 3 0 0)),(1,.c (.r (.v (.int .i64 a1)))),(4,.c (.p 0 3 0 0)),(5,.c (.p 1 3 0 0)),(6,.c (.r (.v (.int .i64 v4))))],tab:=[(0,some (.foc 3 [] [.n 6,.n 1,.r (.v (.int .i64 0))] [])),(1,some (.foc 3 [] [.f 2 6 0 (dlen (d_Leg w1)),.n 1,.r (.v (.int .i64 (wrap .i64 (mul 15 x1_1))))] [])),(2,some (.arr 6 (d_Leg w1))),(3,some (.foc 3 [] [.r (.s 1 (r_U8 v1)),.r (.v (.int .i64 v2)),.r (.v (.int .i64 v3))] []))]}:St)) 4 (fun p=>p.1.1) ⟨(1000000000,x2_2_b,x2_2_i,x2_2_h,[],(wrap .i64 (add 1 x2_1))),ho1⟩ ((List Int)×Int×Int×List Leg) (fun⟨y1_1,y1_2_1,y1_2_2_1,y1_2_2_2⟩=>({sl:=[(0,.c (.p 3 3 0 0)),(4,.c (.p 0 3 0 0)),(5,.c (.p 1 3 0 0))],tab:=[(0,some (.foc 3 [] [.n 6,.n 1,.r (.v (.int .i64 0))] [])),(1,some (.foc 3 [] [.f 2 6 0 (dlen (d_Leg y1_2_2_2)),.n 1,.r (.v (.int .i64 (wrap .i64 (mul 15 x1_1))))] [])),(2,some (.arr 6 (d_Leg y1_2_2_2))),(3,some (.foc 3 [] [.r (.s 1 (r_U8 y1_1)),.r (.v (.int .i64 y1_2_1)),.r (.v (.int .i64 y1_2_2_1))] []))]}:St)) 4 (fun y=>o1=y) ?_ ?_ ?_
 ·refine Wk.of [(0,some 4),(1,some 84),(2,none),(3,some 3)] rfl rfl ?_ ?_
  ·cbv;all_goals try rw[show dlen (d_Leg [])=0 from nB hg ht]
   all_goals try rw[hnil_Leg]
   all_goals exact⟨⟨_,rfl,rfl⟩,⟨_,rfl,rfl⟩,⟨_,rfl,rfl⟩,⟨_,rfl,rfl⟩,⟨_,rfl,rfl⟩,trivial⟩
  cbv;all_goals try rw[show dlen (d_Leg [])=0 from nB hg ht]
  all_goals try rw[hnil_Leg]
  all_goals exact⟨⟨_,rfl,_,rfl,rfl,rfl,rfl,trivial⟩,⟨_,rfl,_,rfl,⟨⟨_,rfl⟩,rfl,rfl⟩,rfl,rfl,trivial⟩,⟨_,rfl⟩,⟨_,rfl,_,rfl,rfl,rfl,rfl,trivial⟩,trivial⟩
 ·rintro⟨⟨n1,v1,v2,v3,w1,v4⟩,h_1⟩ hq1;try dsimp only at h_1
  clear hq1;rcases n1 with _|n1
  ·rw[cz] at h_1;cases h_1
  rw[cz] at h_1;try rw[←hg] at h_1
  try rw[←ht] at h_1
  try dsimp only at h_1
  cbv
  cases hb1:(lt 0 v4)
  ·rw[aa hb1] at h_1;cbv;refine⟨(v1,v2,v3,w1),Wk.of [(0,some 0),(1,some 1),(2,some 2),(3,some 3)] rfl rfl ?_ ?_,(Option.some.inj h_1).symm⟩
   ·cbv;all_goals exact⟨⟨_,rfl,rfl⟩,⟨_,rfl,rfl⟩,⟨_,rfl,rfl⟩,trivial⟩
   cbv;all_goals exact⟨⟨_,rfl,_,rfl,rfl,rfl,rfl,trivial⟩,⟨_,rfl,_,rfl,rfl,rfl,rfl,trivial⟩,⟨_,rfl,rfl⟩,⟨_,rfl,_,rfl,rfl,rfl,rfl,trivial⟩,trivial⟩
  rw[ab hb1] at h_1;cbv;obtain⟨x3,hx3,h_1⟩:=af h_1;obtain⟨⟨x3_1_From,x3_1_To,x3_1_Start,x3_1_Takes,x3_1_Days,x3_1_Room⟩,⟨x3_2_b,x3_2_i,x3_2_h⟩⟩:=x3;try dsimp only at h_1
  refine ACallM.mk _ _ _ _ rfl rfl (hF _ _ _ (Af hg ht hx3)) rfl (nb rfl) (nb rfl) ?_;cbv;obtain⟨l1,hl1,h_1⟩:=ah h_1;try dsimp only at h_1
  refine ANew.mk (d_Leg l1) (dlen (d_Leg l1)) (by rw[←hl1];exact vp hg ht [(Leg.mk x3_1_From x3_1_To x3_1_Start x3_1_Takes x3_1_Days x3_1_Room)]) (by rw[←hl1];exact rB hg ht [(Leg.mk x3_1_From x3_1_To x3_1_Start x3_1_Takes x3_1_Days x3_1_Room)]) ?_;cbv;obtain⟨hc4,h_1⟩:=aj h_1;refine AStep.mk ⟨⟨rfl,(a9 hg ht _)⟩,(mM hg ht (a9 hg ht _) rfl hc4)⟩ ?_;cbv;obtain⟨l2,hl2,h_1⟩:=ah h_1;try dsimp only at h_1
  refine ANew.mk (d_Leg l2) (dlen (d_Leg l2)) (by rw[←hl2];exact uX hg ht (a9 hg ht _) rfl) (by rw[←hl2];exact rt hg ht (a9 hg ht _) rfl) ?_;cbv;obtain⟨x4,hx4,h_1⟩:=af h_1;obtain⟨x4_1,⟨x4_2_b,x4_2_i,x4_2_h⟩⟩:=x4;try dsimp only at h_1
  refine ACallM.mk _ _ _ _ rfl rfl (hF _ _ _ (eC hg ht hx4)) rfl (nb rfl) (nb rfl) ?_;cbv;have hb2:x4_1=true∨x4_1=false:=by cases x4_1<;>simp
  rcases hb2 with hb2|hb2
  ·rw[ab hb2] at h_1;have hK_:=h_1;subst hb2;have h_1:=hK_;clear hK_;cbv;iterate 5 try(rw[hb2];cbv)
   cases hb3:(lt (int (dlen (d_Leg l2))) a1)
   ·rw[aa hb3] at h_1;cbv;try rw[hg] at h_1
    try rw[ht] at h_1
    refine⟨⟨(n1,x4_2_b,x4_2_i,x4_2_h,l2,(wrap .i64 (sub v4 1))),h_1⟩,Wk.of [(0,some 0),(1,some 1),(2,some 164),(3,some 3)] rfl rfl ?_ ?_,Nat.lt_succ_self _⟩
    ·cbv;all_goals exact⟨⟨_,rfl,rfl⟩,⟨_,rfl,rfl⟩,⟨_,rfl,rfl⟩,⟨_,rfl,rfl⟩,⟨_,rfl,rfl⟩,trivial⟩
    cbv;all_goals exact⟨⟨_,rfl,_,rfl,rfl,rfl,rfl,trivial⟩,⟨_,rfl,_,rfl,rfl,rfl,rfl,trivial⟩,⟨_,rfl,rfl⟩,⟨_,rfl,_,rfl,rfl,rfl,rfl,trivial⟩,trivial⟩
   rw[ab hb3] at h_1;cbv;obtain⟨hc1,h_1⟩:=aj h_1;refine AStep.mk hc1 ?_;cbv;obtain⟨x5,hx5,h_1⟩:=aD h_1;obtain⟨x5_From,x5_To,x5_Start,x5_Takes,x5_Days,x5_Room⟩:=x5;try dsimp only at h_1
   refine AGet.mk _ (fR hg ht hx5) ?_;cbv;obtain⟨hc2,h_1⟩:=aj h_1;refine AStep.mk hc2 ?_;cbv;refine AGet.mk _ (fR hg ht hx5) ?_;cbv;obtain⟨x6,hx6,h_1⟩:=af h_1;obtain⟨x6_1,⟨x6_2_b,x6_2_i,x6_2_h⟩⟩:=x6;try dsimp only at h_1
   refine ACallM.mk _ _ _ _ rfl rfl (hF _ _ _ (ba hg ht hx6)) rfl (nb rfl) (nb rfl) ?_;cbv;refine AStep.mk (by decide) ?_;cbv;obtain⟨l3,hl3,h_1⟩:=ah h_1;try dsimp only at h_1
   refine ANew.mk (d_Leg l3) (dlen (d_Leg l3)) (by rw[←hl3];exact vp hg ht [(Leg.mk x5_To x5_From (rem (wrap .i64 (add x3_1_Start (wrap .i64 (mul 60 x6_1)))) 1440) x3_1_Takes x3_1_Days x3_1_Room)]) (by rw[←hl3];exact rB hg ht [(Leg.mk x5_To x5_From (rem (wrap .i64 (add x3_1_Start (wrap .i64 (mul 60 x6_1)))) 1440) x3_1_Takes x3_1_Days x3_1_Room)]) ?_;cbv;obtain⟨hc3,h_1⟩:=aj h_1;refine AStep.mk ⟨⟨rfl,(a9 hg ht _)⟩,(mM hg ht (a9 hg ht _) rfl hc3)⟩ ?_;cbv;obtain⟨l4,hl4,h_1⟩:=ah h_1;try dsimp only at h_1
   refine ANew.mk (d_Leg l4) (dlen (d_Leg l4)) (by rw[←hl4];exact uX hg ht (a9 hg ht _) rfl) (by rw[←hl4];exact rt hg ht (a9 hg ht _) rfl) ?_;cbv;try rw[hg] at h_1
   try rw[ht] at h_1
   refine⟨⟨(n1,x6_2_b,x6_2_i,x6_2_h,l4,(wrap .i64 (sub v4 1))),h_1⟩,Wk.of [(0,some 0),(1,some 1),(2,some 916),(3,some 3)] rfl rfl ?_ ?_,Nat.lt_succ_self _⟩
   ·cbv;all_goals exact⟨⟨_,rfl,rfl⟩,⟨_,rfl,rfl⟩,⟨_,rfl,rfl⟩,⟨_,rfl,rfl⟩,⟨_,rfl,rfl⟩,trivial⟩
   cbv;all_goals exact⟨⟨_,rfl,_,rfl,rfl,rfl,rfl,trivial⟩,⟨_,rfl,_,rfl,rfl,rfl,rfl,trivial⟩,⟨_,rfl,rfl⟩,⟨_,rfl,_,rfl,rfl,rfl,rfl,trivial⟩,trivial⟩
  rw[aa hb2] at h_1;have hK_:=h_1;subst hb2;have h_1:=hK_;clear hK_;cbv;iterate 5 try(rw[hb2];cbv)
  try rw[hg] at h_1
  try rw[ht] at h_1
  refine⟨⟨(n1,x4_2_b,x4_2_i,x4_2_h,l2,(wrap .i64 (sub v4 1))),h_1⟩,Wk.of [(0,some 0),(1,some 1),(2,some 164),(3,some 3)] rfl rfl ?_ ?_,Nat.lt_succ_self _⟩
  ·cbv;all_goals exact⟨⟨_,rfl,rfl⟩,⟨_,rfl,rfl⟩,⟨_,rfl,rfl⟩,⟨_,rfl,rfl⟩,⟨_,rfl,rfl⟩,trivial⟩
  cbv;all_goals exact⟨⟨_,rfl,_,rfl,rfl,rfl,rfl,trivial⟩,⟨_,rfl,_,rfl,rfl,rfl,rfl,trivial⟩,⟨_,rfl,rfl⟩,⟨_,rfl,_,rfl,rfl,rfl,rfl,trivial⟩,trivial⟩
 rintro⟨y1_1,y1_2_1,y1_2_2_1,y1_2_2_2⟩ hy1;replace hy1:=hy1.symm;subst hy1;try dsimp only[lr,lrL,lrp,aZ] at h
 cbv;obtain⟨x7,hx7,h⟩:=af h;obtain⟨x7_1,⟨x7_2_b,x7_2_i,x7_2_h⟩⟩:=x7;try dsimp only at h
 refine ACallM.mk _ _ _ _ rfl rfl (hF _ _ _ (eC hg ht hx7)) rfl (nb rfl) (nb rfl) ?_;cbv;have hb4:x7_1=true∨x7_1=false:=by cases x7_1<;>simp
 rcases hb4 with hb4|hb4
 ·rw[ab hb4] at h;have hK_:=h;subst hb4;have h:=hK_;clear hK_;cbv;obtain⟨x8,hx8,h⟩:=af h;obtain⟨x8_1,⟨x8_2_b,x8_2_i,x8_2_h⟩⟩:=x8;try dsimp only at h
  refine ACallM.mk _ _ _ _ rfl rfl (hF _ _ _ (ba hg ht hx8)) rfl (nb rfl) (nb rfl) ?_;cbv;obtain⟨x9,hx9,h⟩:=af h;obtain⟨x9_1,⟨x9_2_b,x9_2_i,x9_2_h⟩⟩:=x9;try dsimp only at h
  refine ACallM.mk _ _ _ _ rfl rfl (hF _ _ _ (ba hg ht hx9)) rfl (nb rfl) (nb rfl) ?_;cbv;obtain⟨l5,hl5,h⟩:=ah h;try dsimp only at h
  refine ANew.mk (d_I64 l5) (dlen (d_I64 l5)) (by rw[←hl5];exact dB hg ht [x8_1,(wrap .i64 (add 3 x9_1))]) (by rw[←hl5];exact cH hg ht [x8_1,(wrap .i64 (add 3 x9_1))]) ?_;cbv;obtain rfl:=Option.some.inj h;exact ARetM.mk ⟨⟨rfl,(a9 hg ht _)⟩,⟨rfl,(ak hg ht _)⟩⟩ hX.symm hY.symm
 rw[aa hb4] at h;have hK_:=h;subst hb4;have h:=hK_;clear hK_;cbv;obtain rfl:=Option.some.inj h;exact ARetM.mk ⟨rfl,(a9 hg ht _)⟩ (by rw[hX];first|rfl|(simp only[Trip.ds,Scan.ds,Leg.ds,Network.ds,Booking.ds,Belief.ds,Cur.ds,Spot.ds,Know.ds,hnil_I64];try rfl)) (by rw[hY];first|rfl|(simp only[Trip.ds,Scan.ds,Leg.ds,Network.ds,Booking.ds,Belief.ds,Cur.ds,Spot.ds,Know.ds,hnil_I64];try rfl))
def HW:J:=js [jq 2 (.alloc [.n 6,.n 1,.r (.v (.int .i64 0))])] [0,2] (js [jm 5 0,jq 6 (.callm 65 true 5 [(ki 6)]),jq 3 (.alloc [.n 6,.n 1,.r (.v (.int .i64 0))]),jp (.st 3 3 6)] [0,2,3] (js [jm 7 0,jf 8 0 3,jk 9 8,jq 10 (.len false 9),jq 11 (.callm 90 true 7 [10]),jm 4 11] [0,2,3,4] (.seq (js [jm 12 0,jq 13 (.callm 90 true 12 [(ki 10)])] [0,2,3,4,13] (.block 0 (js [jb 15 .eql .i 13 (ki 0),jm 14 15] [0,2,3,4,13,14] (.cond 14 (.reg (some [[],[0],[],[],[],[3,4],[0,1,2,3,4,5],[0,1,2,3,4,5,6],[0,1,2,3,4,5,6,7]]) [jf 16 0 3,jk 17 16,jm 18 4,jm 19 0,jq 20 (.bslr 1 [(.k (V.i (-1))),(ki 0),(ki 1439),(ki 1440)]),jq 21 (.callm 72 true 19 [20]),ja 22 6 17 18,jf 23 2 22,jp (.st 1 23 21)] [2,3]) (js [jb 25 .eql .i 13 (ki 1),jm 24 25] [0,2,3,4,13,24] (.cond 24 (.reg (some [[],[0],[],[],[],[3,4],[0,1,2,3,4,5],[0,1,2,3,4,5,6],[0,1,2,3,4,5,6,7]]) [jf 26 0 3,jk 27 26,jm 28 4,jm 29 0,jq 30 (.bslr 1 [(ki 0),(ki 1),(ki 4320),(ki 4321)]),jq 31 (.callm 72 true 29 [30]),ja 32 6 27 28,jf 33 3 32,jp (.st 1 33 31)] [2,3]) (js [jb 35 .eql .i 13 (ki 2),jm 34 35] [0,2,3,4,13,34] (.cond 34 (.reg (some [[],[0],[],[],[],[3,4],[0,1,2,3,4,5],[0,1,2,3,4,5,6],[0,1,2,3,4,5,6,7]]) [jf 36 0 3,jk 37 36,jm 38 4,jm 39 0,jq 40 (.bslr 1 [(ki 0),(ki 127),(ki 128),(.k (V.i (-1)))]),jq 41 (.callm 72 true 39 [40]),ja 42 6 37 38,jf 43 4 42,jp (.st 1 43 41)] [2,3]) (js [jb 45 .eql .i 13 (ki 3),jm 44 45] [0,2,3,4,13,44] (.cond 44 (.reg (some [[],[0],[],[],[2,3],[2,3,4],[0,1,2,3,4,5],[0,1,2,3,4,5,6],[0,1,2,3,4,5,6,7]]) [jf 46 1 3,jk 47 46,jm 48 0,jq 49 (.bslr 1 [(ki 0),(ki 60),(ki 61),(.k (V.i (-1)))]),jq 50 (.callm 72 true 48 [49]),jq 51 (.bsl 1 [50]),jq 52 (.app 1 8 true 47 51),jf 53 1 3,jp (.st 1 53 52)] [2,3]) (js [jb 55 .eql .i 13 (ki 4),jm 54 55] [0,2,3,4,13,54] (.cond 54 (.reg none [jm 56 0,jq 57 (.bslr 1 [(.k (V.i (-1))),(ki 240),(ki 241)]),jq 58 (.callm 72 true 56 [57]),jf 59 2 3,jp (.st 1 59 58)] [2,3]) (js [jb 61 .eql .i 13 (ki 5),jm 60 61] [0,2,3,4,13,60] (.cond 60 (.reg (some [[],[0],[],[],[3],[],[3,4,5],[3,4,5,6],[3,4,5,6,7],[0,1,2,3,4,5,6,7,8],[0,1,2,3,4,5,6,7,8,9],[0,1,2,3,4,5,6,7,8,9,10]]) [jf 62 0 3,jk 63 62,jm 64 4,jf 65 0 3,jk 66 65,jm 67 4,ja 68 6 66 67,jf 69 0 68,jk 70 69,ja 71 6 63 64,jf 72 1 71,jp (.st 1 72 70)] [2,3]) (js [jb 74 .eql .i 13 (ki 6),jm 73 74] [0,2,3,4,73] (.cond 73 (.seq (.bl 1 (.seq (js [jf 75 0 3,jk 76 75,jq 77 (.len false 76),jb 78 .lss .i 77 (ki 21)] [0,2,3,4,78] (.cond 78 .skip (.exit 1))) (.block 2 (.reg (some [[],[0],[],[2],[],[2,3,4],[2,3,4,5],[2,3,4,5,6],[0,1,2,3,4,5,6,7],[0,1,2,3,4,5,6,7,8],[0,1,2,3,4,5,6,7,8,9]]) [jf 79 0 3,jk 80 79,jf 81 0 3,jk 82 81,jm 83 4,ja 84 6 82 83,jl 85 6 84,jq 86 (.bsl 6 [85]),jq
 87 (.app 6 64 true 80 86),jf 88 0 3,jp (.st 1 88 87)] [0,2,3,4])))) (.reg (some [[],[0],[],[],[2,3],[0,1,2,3,4],[0,1,2,3,4,5],[0,1,2,3,4,5,6]]) [jf 89 0 3,jk 90 89,jm 91 0,jq 92 (.bslr 1 [(ki 20),(ki 21)]),jq 93 (.callm 72 true 91 [92]),jq 94 (.cut 6 90 93),jf 95 0 3,jp (.st 1 95 94)] [2,3])) .skip)))))))))))))))) (js [jl 96 3 3,jp (.st 3 2 96)] [2] .ret))))
def Hc:List RV:=[.c 2 true 3]
def fy (g:G) (t:TE) (x2:Int×Cur):Nat→List Leg→Option (List Leg)
 |0,_=>none
 |n1+1,w1=>
  br (g.lt (g.int (g.dlen (t.d_Leg w1))) 21)
  (
   gd (((0:Int)≤x2.1∧x2.1<(((g.dlen (t.d_Leg w1)):Nat):Int)))<|
   gt w1 (g.nat x2.1) fun x13=>
   lP ([x13]) fun(l12:List Leg)=>
   gd (((w1.length+l12.length)*64≤70368744177664))<|
   lP (w1++l12) fun(l13:List Leg)=>
   fy g t x2 n1 l13)
  (
   some w1)
def nZ (g:G) (t:TE) (a0:Cur):Option (Network×Cur):=
 cl (jQ g t a0 6) fun x1=>
 cl (be g t (Cur.mk x1.2.b x1.2.i x1.2.h) (g.int (g.dlen (t.d_Leg x1.1.Legs)))) fun x2=>
 cl (be g t (Cur.mk x2.2.b x2.2.i x2.2.h) 10) fun x3=>
 br (g.eq x3.1 0)
 (
  lP ([(-1),0,1439,1440]) fun(l1:List Int)=>
  cl (eT g t (Cur.mk x3.2.b x3.2.i x3.2.h) l1) fun x4=>
  gd (((0:Int)≤x2.1∧x2.1<(((g.dlen (t.d_Leg x1.1.Legs)):Nat):Int)))<|
  gt x1.1.Legs (g.nat x2.1) fun x5=>
  lP (List.set x1.1.Legs (g.nat x2.1) (Leg.mk x5.From x5.To x4.1 x5.Takes x5.Days x5.Room)) fun(l2:List Leg)=>
  some (((Network.mk l2 x1.1.Off x1.1.Change),(Cur.mk x4.2.b x4.2.i x4.2.h))))
 (
  br (g.eq x3.1 1)
  (
   lP ([0,1,4320,4321]) fun(l3:List Int)=>
   cl (eT g t (Cur.mk x3.2.b x3.2.i x3.2.h) l3) fun x6=>
   gd (((0:Int)≤x2.1∧x2.1<(((g.dlen (t.d_Leg x1.1.Legs)):Nat):Int)))<|
   gt x1.1.Legs (g.nat x2.1) fun x7=>
   lP (List.set x1.1.Legs (g.nat x2.1) (Leg.mk x7.From x7.To x7.Start x6.1 x7.Days x7.Room)) fun(l4:List Leg)=>
   some (((Network.mk l4 x1.1.Off x1.1.Change),(Cur.mk x6.2.b x6.2.i x6.2.h))))
  (
   br (g.eq x3.1 2)
   (
    lP ([0,127,128,(-1)]) fun(l5:List Int)=>
    cl (eT g t (Cur.mk x3.2.b x3.2.i x3.2.h) l5) fun x8=>
    gd (((0:Int)≤x2.1∧x2.1<(((g.dlen (t.d_Leg x1.1.Legs)):Nat):Int)))<|
    gt x1.1.Legs (g.nat x2.1) fun x9=>
    lP (List.set x1.1.Legs (g.nat x2.1) (Leg.mk x9.From x9.To x9.Start x9.Takes x8.1 x9.Room)) fun(l6:List Leg)=>
    some (((Network.mk l6 x1.1.Off x1.1.Change),(Cur.mk x8.2.b x8.2.i x8.2.h))))
   (
    br (g.eq x3.1 3)
    (
     lP ([0,60,61,(-1)]) fun(l7:List Int)=>
     cl (eT g t (Cur.mk x3.2.b x3.2.i x3.2.h) l7) fun x10=>
     lP ([x10.1]) fun(l8:List Int)=>
     gd (((x1.1.Off.length+l8.length)*8≤70368744177664))<|
     lP (x1.1.Off++l8) fun(l9:List Int)=>
     some (((Network.mk x1.1.Legs l9 x1.1.Change),(Cur.mk x10.2.b x10.2.i x10.2.h))))
    (
     br (g.eq x3.1 4)
     (
      lP ([(-1),240,241]) fun(l10:List Int)=>
      cl (eT g t (Cur.mk x3.2.b x3.2.i x3.2.h) l10) fun x11=>
      some (((Network.mk x1.1.Legs x1.1.Off x11.1),(Cur.mk x11.2.b x11.2.i x11.2.h))))
     (
      br (g.eq x3.1 5)
      (
       gd (((0:Int)≤x2.1∧x2.1<(((g.dlen (t.d_Leg x1.1.Legs)):Nat):Int)))<|
       gt x1.1.Legs (g.nat x2.1) fun x12=>
       gd (((0:Int)≤x2.1∧x2.1<(((g.dlen (t.d_Leg x1.1.Legs)):Nat):Int)))<|
       lP (List.set x1.1.Legs (g.nat x2.1) (Leg.mk x12.From x12.From x12.Start x12.Takes x12.Days x12.Room)) fun(l11:List Leg)=>
       some (((Network.mk l11 x1.1.Off x1.1.Change),(Cur.mk x3.2.b x3.2.i x3.2.h))))
      (
       br (g.eq x3.1 6)
       (
        cl (fy g t x2 1000000000 x1.1.Legs) fun y1=>
        lP ([20,21]) fun(l14:List Int)=>
        cl (eT g t (Cur.mk x3.2.b x3.2.i x3.2.h) l14) fun x14=>
        gd (((0:Int)≤x14.1∧x14.1≤(((g.dlen (t.d_Leg y1)):Nat):Int)))<|
        lP (List.take (g.nat x14.1) (List.drop 0 y1)) fun(l15:List Leg)=>
        some (((Network.mk l15 x1.1.Off x1.1.Change),(Cur.mk x14.2.b x14.2.i x14.2.h))))
       (
        some (((Network.mk x1.1.Legs x1.1.Off x1.1.Change),(Cur.mk x3.2.b x3.2.i x3.2.h))))))))))
theorem Ap {g:G} {t:TE} {a0:Cur} {r:Network×Cur} (hg:g=G.real) (ht:t=TE.real) (h:nZ g t a0=some r):FnM Tryz.prog 137 (.p (Cur.ds t a0)) [] (.g (Network.ds t r.1)) (.p (Cur.ds t r.2)):=by
 obtain⟨X,hX⟩:=aC (.g (Network.ds t r.1):X);obtain⟨Y,hY⟩:=aC (.p (Cur.ds t r.2):AM);rw[←hX,←hY];refine gO (rvs:=Hc) (j:=HW) Tryz.func137 rfl (by kernel_rfl) (nb rfl) (by kernel_rfl) ac ?_;intro g2 F hg2 hF;obtain rfl:g2=g:=hg2.unique.trans hg.symm;clear hg2;obtain⟨_,lt,_,eq,_,_,_,_,_,_,_,_,int,_,_,_,_,_,_,_,_,_,_,_,dlen⟩:=g2;obtain⟨r_U8,_,_,_,_,d_Leg,r_I64,d_I64⟩:=t
 obtain⟨a0_b,a0_i,a0_h⟩:=a0;unfold nZ at h;try dsimp only at h
 cbv;obtain⟨x1,hx1,h⟩:=af h;obtain⟨⟨x1_1_Legs,x1_1_Off,x1_1_Change⟩,⟨x1_2_b,x1_2_i,x1_2_h⟩⟩:=x1;try dsimp only at h
 refine ACallM.mk _ _ _ _ rfl rfl (hF _ _ _ (qV hg ht hx1)) rfl (nb rfl) (nb rfl) ?_;cbv;obtain⟨x2,hx2,h⟩:=af h;obtain⟨x2_1,⟨x2_2_b,x2_2_i,x2_2_h⟩⟩:=x2;try dsimp only at h
 refine ACallM.mk _ _ _ _ rfl rfl (hF _ _ _ (ba hg ht hx2)) rfl (nb rfl) (nb rfl) ?_;cbv;obtain⟨x3,hx3,h⟩:=af h;obtain⟨x3_1,⟨x3_2_b,x3_2_i,x3_2_h⟩⟩:=x3;try dsimp only at h
 refine ACallM.mk _ _ _ _ rfl rfl (hF _ _ _ (ba hg ht hx3)) rfl (nb rfl) (nb rfl) ?_;cbv
 cases hb1:(eq x3_1 0)
 rotate_left
 ·rw[ab hb1] at h;cbv;obtain⟨l1,hl1,h⟩:=ah h;try dsimp only at h
  refine AVal.mk (r_I64 l1) (by rw[←hl1];exact fV hg ht [(-1),0,1439,1440]) ?_;cbv;obtain⟨x4,hx4,h⟩:=af h;obtain⟨x4_1,⟨x4_2_b,x4_2_i,x4_2_h⟩⟩:=x4;try dsimp only at h
  refine ACallM.mk _ _ _ _ rfl rfl (hF _ _ _ (eY hg ht hx4)) rfl (nb rfl) (nb rfl) ?_;cbv;obtain⟨hc1,h⟩:=aj h;refine AStep.mk hc1 ?_;cbv;obtain⟨x5,hx5,h⟩:=aD h;obtain⟨x5_From,x5_To,x5_Start,x5_Takes,x5_Days,x5_Room⟩:=x5;try dsimp only at h
  refine AGet.mk _ (fR hg ht hx5) ?_;cbv;obtain⟨l2,hl2,h⟩:=ah h;try dsimp only at h
  refine ANew.mk (d_Leg l2) _ (by rw[←hl2];exact ou hg ht _ _ (Leg.mk x5_From x5_To x4_1 x5_Takes x5_Days x5_Room)) rfl ?_;have hnl2:(dlen (d_Leg x1_1_Legs))=(d_Leg l2).length:=(by rw[←hl2,mf ht];exact(a9 hg ht _));cbv;obtain rfl:=Option.some.inj h;exact ARetM.mk ⟨⟨rfl,hnl2⟩,⟨rfl,(ak hg ht _)⟩⟩ hX.symm hY.symm
 rw[aa hb1] at h;cbv
 cases hb2:(eq x3_1 1)
 rotate_left
 ·rw[ab hb2] at h;cbv;obtain⟨l3,hl3,h⟩:=ah h;try dsimp only at h
  refine AVal.mk (r_I64 l3) (by rw[←hl3];exact fV hg ht [0,1,4320,4321]) ?_;cbv;obtain⟨x6,hx6,h⟩:=af h;obtain⟨x6_1,⟨x6_2_b,x6_2_i,x6_2_h⟩⟩:=x6;try dsimp only at h
  refine ACallM.mk _ _ _ _ rfl rfl (hF _ _ _ (eY hg ht hx6)) rfl (nb rfl) (nb rfl) ?_;cbv;obtain⟨hc2,h⟩:=aj h;refine AStep.mk hc2 ?_;cbv;obtain⟨x7,hx7,h⟩:=aD h;obtain⟨x7_From,x7_To,x7_Start,x7_Takes,x7_Days,x7_Room⟩:=x7;try dsimp only at h
  refine AGet.mk _ (fR hg ht hx7) ?_;cbv;obtain⟨l4,hl4,h⟩:=ah h;try dsimp only at h
  refine ANew.mk (d_Leg l4) _ (by rw[←hl4];exact ou hg ht _ _ (Leg.mk x7_From x7_To x7_Start x6_1 x7_Days x7_Room)) rfl ?_;have hnl4:(dlen (d_Leg x1_1_Legs))=(d_Leg l4).length:=(by rw[←hl4,mf ht];exact(a9 hg ht _));cbv;obtain rfl:=Option.some.inj h;exact ARetM.mk ⟨⟨rfl,hnl4⟩,⟨rfl,(ak hg ht _)⟩⟩ hX.symm hY.symm
 rw[aa hb2] at h;cbv
 cases hb3:(eq x3_1 2)
 rotate_left
 ·rw[ab hb3] at h;cbv;obtain⟨l5,hl5,h⟩:=ah h;try dsimp only at h
  refine AVal.mk (r_I64 l5) (by rw[←hl5];exact fV hg ht [0,127,128,(-1)]) ?_;cbv;obtain⟨x8,hx8,h⟩:=af h;obtain⟨x8_1,⟨x8_2_b,x8_2_i,x8_2_h⟩⟩:=x8;try dsimp only at h
  refine ACallM.mk _ _ _ _ rfl rfl (hF _ _ _ (eY hg ht hx8)) rfl (nb rfl) (nb rfl) ?_;cbv;obtain⟨hc3,h⟩:=aj h;refine AStep.mk hc3 ?_;cbv;obtain⟨x9,hx9,h⟩:=aD h;obtain⟨x9_From,x9_To,x9_Start,x9_Takes,x9_Days,x9_Room⟩:=x9;try dsimp only at h
  refine AGet.mk _ (fR hg ht hx9) ?_;cbv;obtain⟨l6,hl6,h⟩:=ah h;try dsimp only at h
  refine ANew.mk (d_Leg l6) _ (by rw[←hl6];exact ou hg ht _ _ (Leg.mk x9_From x9_To x9_Start x9_Takes x8_1 x9_Room)) rfl ?_;have hnl6:(dlen (d_Leg x1_1_Legs))=(d_Leg l6).length:=(by rw[←hl6,mf ht];exact(a9 hg ht _));cbv;obtain rfl:=Option.some.inj h;exact ARetM.mk ⟨⟨rfl,hnl6⟩,⟨rfl,(ak hg ht _)⟩⟩ hX.symm hY.symm
 rw[aa hb3] at h;cbv
 cases hb4:(eq x3_1 3)
 rotate_left
 ·rw[ab hb4] at h;cbv;obtain⟨l7,hl7,h⟩:=ah h;try dsimp only at h
  refine AVal.mk (r_I64 l7) (by rw[←hl7];exact fV hg ht [0,60,61,(-1)]) ?_;cbv;obtain⟨x10,hx10,h⟩:=af h;obtain⟨x10_1,⟨x10_2_b,x10_2_i,x10_2_h⟩⟩:=x10;try dsimp only at h
  refine ACallM.mk _ _ _ _ rfl rfl (hF _ _ _ (eY hg ht hx10)) rfl (nb rfl) (nb rfl) ?_;cbv;obtain⟨l8,hl8,h⟩:=ah h;try dsimp only at h
  refine ANew.mk (d_I64 l8) (dlen (d_I64 l8)) (by rw[←hl8];exact dB hg ht [x10_1]) (by rw[←hl8];exact cH hg ht [x10_1]) ?_;cbv;obtain⟨hc4,h⟩:=aj h;refine AStep.mk ⟨⟨rfl,(ak hg ht _)⟩,(fw hg ht (ak hg ht _) rfl hc4)⟩ ?_;cbv;obtain⟨l9,hl9,h⟩:=ah h;try dsimp only at h
  refine ANew.mk (d_I64 l9) (dlen (d_I64 l9)) (by rw[←hl9];exact kw hg ht (ak hg ht _) rfl) (by rw[←hl9];exact iG hg ht (ak hg ht _) rfl) ?_;cbv;obtain rfl:=Option.some.inj h;exact ARetM.mk ⟨⟨rfl,(a9 hg ht _)⟩,⟨rfl,(ak hg ht _)⟩⟩ hX.symm hY.symm
 rw[aa hb4] at h;cbv
 cases hb5:(eq x3_1 4)
 rotate_left
 ·rw[ab hb5] at h;cbv;obtain⟨l10,hl10,h⟩:=ah h;try dsimp only at h
  refine AVal.mk (r_I64 l10) (by rw[←hl10];exact fV hg ht [(-1),240,241]) ?_;cbv;obtain⟨x11,hx11,h⟩:=af h;obtain⟨x11_1,⟨x11_2_b,x11_2_i,x11_2_h⟩⟩:=x11;try dsimp only at h
  refine ACallM.mk _ _ _ _ rfl rfl (hF _ _ _ (eY hg ht hx11)) rfl (nb rfl) (nb rfl) ?_;cbv;obtain rfl:=Option.some.inj h;exact ARetM.mk ⟨⟨rfl,(a9 hg ht _)⟩,⟨rfl,(ak hg ht _)⟩⟩ hX.symm hY.symm
 rw[aa hb5] at h;cbv
 cases hb6:(eq x3_1 5)
 rotate_left
 ·rw[ab hb6] at h;cbv;obtain⟨hc5,h⟩:=aj h;refine AStep.mk hc5 ?_;cbv;obtain⟨x12,hx12,h⟩:=aD h;obtain⟨x12_From,x12_To,x12_Start,x12_Takes,x12_Days,x12_Room⟩:=x12;try dsimp only at h
  refine AGet.mk _ (fR hg ht hx12) ?_;cbv;obtain⟨hc6,h⟩:=aj h;refine AStep.mk hc6 ?_;cbv;refine AGet.mk _ (fR hg ht hx12) ?_;cbv;obtain⟨l11,hl11,h⟩:=ah h;try dsimp only at h
  refine ANew.mk (d_Leg l11) _ (by rw[←hl11];exact ou hg ht _ _ (Leg.mk x12_From x12_From x12_Start x12_Takes x12_Days x12_Room)) rfl ?_;have hnl11:(dlen (d_Leg x1_1_Legs))=(d_Leg l11).length:=(by rw[←hl11,mf ht];exact(a9 hg ht _));cbv;obtain rfl:=Option.some.inj h;exact ARetM.mk ⟨⟨rfl,hnl11⟩,⟨rfl,(ak hg ht _)⟩⟩ hX.symm hY.symm
 rw[aa hb6] at h;cbv
 cases hb7:(eq x3_1 6)
 ·rw[aa hb7] at h;cbv;obtain rfl:=Option.some.inj h;exact ARetM.mk ⟨⟨rfl,(a9 hg ht _)⟩,⟨rfl,(ak hg ht _)⟩⟩ hX.symm hY.symm
 rw[ab hb7] at h;cbv;obtain⟨o1,ho1,h⟩:=af h;try dsimp only at h
 try rw[hg] at ho1
 try rw[ht] at ho1
 refine ABL.mk {p:Nat×List Leg//fy G.real TE.real (x2_1,(Cur.mk x2_2_b x2_2_i x2_2_h)) p.1 p.2=some o1} (fun⟨⟨n1,w1⟩,_⟩=>({sl:=[(0,.c (.p 3 3 0 0)),(2,.c (.p 0 3 0 0)),(3,.c (.p 1 3 0 0)),(4,.c (.r (.v (.int .i64 x2_1))))],tab:=[(0,some (.foc 3 [] [.n 6,.n 1,.r (.v (.int .i64 0))] [])),(1,some (.foc 3 [] [.f 2 6 0 (dlen (d_Leg w1)),.f 4 1 0 (dlen (d_I64 x1_1_Off)),.r (.v (.int .i64 x1_1_Change))] [])),(2,some (.arr 6 (d_Leg w1))),(3,some (.foc 3 [] [.r (.s 1 (r_U8 x3_2_b)),.r (.v (.int .i64 x3_2_i)),.r (.v (.int .i64 x3_2_h))] [])),(4,some (.arr 1 (d_I64 x1_1_Off)))]}:St)) 5 (fun p=>p.1.1) ⟨(1000000000,x1_1_Legs),ho1⟩ (List Leg) (fun y1=>({sl:=[(0,.c (.p 3 3 0 0)),(2,.c (.p 0 3 0 0)),(3,.c (.p 1 3 0 0))],tab:=[(0,some (.foc 3 [] [.n 6,.n 1,.r (.v (.int .i64 0))] [])),(1,some (.foc 3 [] [.f 2 6 0 (dlen (d_Leg y1)),.f 4 1 0 (dlen (d_I64 x1_1_Off)),.r (.v (.int .i64 x1_1_Change))] [])),(2,some (.arr 6 (d_Leg y1))),(3,some (.foc 3 [] [.r (.s 1 (r_U8 x3_2_b)),.r (.v (.int .i64 x3_2_i)),.r (.v (.int .i64 x3_2_h))] [])),(4,some (.arr 1 (d_I64 x1_1_Off)))]}:St)) 5 (fun y=>o1=y) ?_ ?_ ?_
 ·refine Wk.of [(0,some 4),(1,some 52),(2,some 36),(3,some 3),(4,some 37)] rfl rfl ?_ ?_
  ·cbv;all_goals exact⟨⟨_,rfl,rfl⟩,⟨_,rfl,rfl⟩,⟨_,rfl,rfl⟩,⟨_,rfl,rfl⟩,trivial⟩
  cbv;all_goals exact⟨⟨_,rfl,_,rfl,rfl,rfl,rfl,trivial⟩,⟨_,rfl,_,rfl,rfl,rfl,rfl,trivial⟩,⟨_,rfl,rfl⟩,⟨_,rfl,_,rfl,rfl,rfl,rfl,trivial⟩,⟨_,rfl,rfl⟩,trivial⟩
 ·rintro⟨⟨n1,w1⟩,h_1⟩ hq1;try dsimp only at h_1
  clear hq1;rcases n1 with _|n1
  ·rw[fy] at h_1;cases h_1
  rw[fy] at h_1;try rw[←hg] at h_1
  try rw[←ht] at h_1
  try dsimp only at h_1
  cbv
  cases hb8:(lt (int (dlen (d_Leg w1))) 21)
  ·rw[aa hb8] at h_1;cbv;refine⟨w1,Wk.of [(0,some 0),(1,some 1),(2,some 2),(3,some 3),(4,some 4)] rfl rfl ?_ ?_,(Option.some.inj h_1).symm⟩
   ·cbv;all_goals exact⟨⟨_,rfl,rfl⟩,⟨_,rfl,rfl⟩,⟨_,rfl,rfl⟩,trivial⟩
   cbv;all_goals exact⟨⟨_,rfl,_,rfl,rfl,rfl,rfl,trivial⟩,⟨_,rfl,_,rfl,rfl,rfl,rfl,trivial⟩,⟨_,rfl,rfl⟩,⟨_,rfl,_,rfl,rfl,rfl,rfl,trivial⟩,⟨_,rfl,rfl⟩,trivial⟩
  rw[ab hb8] at h_1;cbv;obtain⟨hc7,h_1⟩:=aj h_1;refine AStep.mk hc7 ?_;cbv;obtain⟨x13,hx13,h_1⟩:=aD h_1;obtain⟨x13_From,x13_To,x13_Start,x13_Takes,x13_Days,x13_Room⟩:=x13;try dsimp only at h_1
  refine AGet.mk _ (fR hg ht hx13) ?_;cbv;obtain⟨l12,hl12,h_1⟩:=ah h_1;try dsimp only at h_1
  refine ANew.mk (d_Leg l12) (dlen (d_Leg l12)) (by rw[←hl12];exact vp hg ht [(Leg.mk x13_From x13_To x13_Start x13_Takes x13_Days x13_Room)]) (by rw[←hl12];exact rB hg ht [(Leg.mk x13_From x13_To x13_Start x13_Takes x13_Days x13_Room)]) ?_;cbv;obtain⟨hc8,h_1⟩:=aj h_1;refine AStep.mk ⟨⟨rfl,(a9 hg ht _)⟩,(mM hg ht (a9 hg ht _) rfl hc8)⟩ ?_;cbv;obtain⟨l13,hl13,h_1⟩:=ah h_1;try dsimp only at h_1
  refine ANew.mk (d_Leg l13) (dlen (d_Leg l13)) (by rw[←hl13];exact uX hg ht (a9 hg ht _) rfl) (by rw[←hl13];exact rt hg ht (a9 hg ht _) rfl) ?_;cbv;try rw[hg] at h_1
  try rw[ht] at h_1
  refine⟨⟨(n1,l13),h_1⟩,Wk.of [(0,some 0),(1,some 1),(2,some 197),(3,some 3),(4,some 4)] rfl rfl ?_ ?_,Nat.lt_succ_self _⟩
  ·cbv;all_goals exact⟨⟨_,rfl,rfl⟩,⟨_,rfl,rfl⟩,⟨_,rfl,rfl⟩,⟨_,rfl,rfl⟩,trivial⟩
  cbv;all_goals exact⟨⟨_,rfl,_,rfl,rfl,rfl,rfl,trivial⟩,⟨_,rfl,_,rfl,rfl,rfl,rfl,trivial⟩,⟨_,rfl,rfl⟩,⟨_,rfl,_,rfl,rfl,rfl,rfl,trivial⟩,⟨_,rfl,rfl⟩,trivial⟩
 rintro y1 hy1;replace hy1:=hy1.symm;subst hy1;try dsimp only[lr,lrL,lrp,aZ] at h
 cbv;obtain⟨l14,hl14,h⟩:=ah h;try dsimp only at h
 refine AVal.mk (r_I64 l14) (by rw[←hl14];exact fV hg ht [20,21]) ?_;cbv;obtain⟨x14,hx14,h⟩:=af h;obtain⟨x14_1,⟨x14_2_b,x14_2_i,x14_2_h⟩⟩:=x14;try dsimp only at h
 refine ACallM.mk _ _ _ _ rfl rfl (hF _ _ _ (eY hg ht hx14)) rfl (nb rfl) (nb rfl) ?_;cbv;obtain⟨hc9,h⟩:=aj h;refine AStep.mk (FK hg (a9 hg ht _) hc9) ?_;cbv;obtain⟨l15,hl15,h⟩:=ah h;try dsimp only at h
 refine ANew.mk (d_Leg l15) (dlen (d_Leg l15)) (by rw[←hl15];exact wt hg ht _ _ _) (by rw[←hl15];exact congrArg _ (wt hg ht _ _ _)) ?_;cbv;obtain rfl:=Option.some.inj h;exact ARetM.mk ⟨⟨rfl,(a9 hg ht _)⟩,⟨rfl,(ak hg ht _)⟩⟩ hX.symm hY.symm
def GX:J:=js [jq 2 (.alloc [.n 6,.n 1,.r (.v (.int .i64 0))])] [0,2] (.seq (js [jm 3 0,jq 4 (.callm 67 true 3 [(ki 9)])] [0,2,4] (.cond 4 (js [jm 5 0,jq 6 (.callm 137 true 5 []),jp (.st 3 2 6)] [2] .ret) .skip)) (js [jm 7 0,jq 8 (.callm 65 true 7 [(ki 9)]),jp (.st 3 2 8)] [2] .ret))
def Gl:List RV:=[.c 2 true 3]
def qq (g:G) (t:TE) (a0:Cur):Option (Network×Cur):=
 cl (ef g t a0 9) fun x1=>
 br x1.1
 (
  cl (nZ g t (Cur.mk x1.2.b x1.2.i x1.2.h)) fun x2=>
  some (((Network.mk x2.1.Legs x2.1.Off x2.1.Change),(Cur.mk x2.2.b x2.2.i x2.2.h))))
 (
  cl (jQ g t (Cur.mk x1.2.b x1.2.i x1.2.h) 9) fun x3=>
  some (((Network.mk x3.1.Legs x3.1.Off x3.1.Change),(Cur.mk x3.2.b x3.2.i x3.2.h))))
theorem Ak {g:G} {t:TE} {a0:Cur} {r:Network×Cur} (hg:g=G.real) (ht:t=TE.real) (h:qq g t a0=some r):FnM Tryz.prog 107 (.p (Cur.ds t a0)) [] (.g (Network.ds t r.1)) (.p (Cur.ds t r.2)):=by
 obtain⟨X,hX⟩:=aC (.g (Network.ds t r.1):X);obtain⟨Y,hY⟩:=aC (.p (Cur.ds t r.2):AM);rw[←hX,←hY];refine gO (rvs:=Gl) (j:=GX) Tryz.func107 rfl (by kernel_rfl) (nb rfl) (by kernel_rfl) ac ?_;intro g2 F hg2 hF;obtain rfl:g2=g:=hg2.unique.trans hg.symm;clear hg2;obtain⟨_⟩:=g2;obtain⟨_⟩:=t
 obtain⟨a0_b,a0_i,a0_h⟩:=a0;unfold qq at h;try dsimp only at h
 cbv;obtain⟨x1,hx1,h⟩:=af h;obtain⟨x1_1,⟨x1_2_b,x1_2_i,x1_2_h⟩⟩:=x1;try dsimp only at h
 refine ACallM.mk _ _ _ _ rfl rfl (hF _ _ _ (eC hg ht hx1)) rfl (nb rfl) (nb rfl) ?_;cbv;have hb1:x1_1=true∨x1_1=false:=by cases x1_1<;>simp
 rcases hb1 with hb1|hb1
 ·rw[ab hb1] at h;have hK_:=h;subst hb1;have h:=hK_;clear hK_;cbv;obtain⟨x2,hx2,h⟩:=af h;obtain⟨⟨x2_1_Legs,x2_1_Off,x2_1_Change⟩,⟨x2_2_b,x2_2_i,x2_2_h⟩⟩:=x2;try dsimp only at h
  refine ACallM.mk _ _ _ _ rfl rfl (hF _ _ _ (Ap hg ht hx2)) rfl (nb rfl) (nb rfl) ?_;cbv;obtain rfl:=Option.some.inj h;exact ARetM.mk ⟨⟨rfl,(a9 hg ht _)⟩,⟨rfl,(ak hg ht _)⟩⟩ hX.symm hY.symm
 rw[aa hb1] at h;have hK_:=h;subst hb1;have h:=hK_;clear hK_;cbv;obtain⟨x3,hx3,h⟩:=af h;obtain⟨⟨x3_1_Legs,x3_1_Off,x3_1_Change⟩,⟨x3_2_b,x3_2_i,x3_2_h⟩⟩:=x3;try dsimp only at h
 refine ACallM.mk _ _ _ _ rfl rfl (hF _ _ _ (qV hg ht hx3)) rfl (nb rfl) (nb rfl) ?_;cbv;obtain rfl:=Option.some.inj h;exact ARetM.mk ⟨⟨rfl,(a9 hg ht _)⟩,⟨rfl,(ak hg ht _)⟩⟩ hX.symm hY.symm
def ir53 (s_k0:ByteArray):J:=js [jq 2 (.alloc [.n 6,.n 1,.r (.v (.int .i64 0))]),jq 3 (.mv (.k (.c (.r (.v (.string s_k0)))))),jq 4 (.mv (.k (.c (.r (.v (.string s_k0)))))),jm 5 (ki 0)] [0,2] (js [jm 8 0,jc 9 64 [8],jm 6 9] [2,6] (js [jm 10 6,jq 11 (.callm 107 false 10 []),jq 7 (.alloc [.n 6,.n 1,.r (.v (.int .i64 0))]),jp (.st 3 7 11)] [2,6,7] (.seq (.reg (some [[],[],[],[1,2],[],[],[1,2,3,4,5],[],[1,2,3,4,5,6,7],[0,1,2,3,4,5,6,7,8],[0,1,2,3,4,5,6,7,8,9],[0,1,2,3,4,5,6,7,8,9,10],[0,1,2,3,4,5,6,7,8,9,10,11]]) [jl 12 3 7,jm 13 6,jl 14 3 7,jq 15 (.callm 70 true 13 [14]),jm 16 6,jl 17 3 7,jq 18 (.callm 70 true 16 [17]),jm 19 6,jq 20 (.callm 71 true 19 []),jp (.st 3 2 12),jm 3 15,jm 4 18,jm 5 20] [2,3,4,5]) .ret)))
def rv53:List RV:=[.c 2 true 3,.t 3,.t 4,.t 5]
def eV (g:G) (t:TE) (a0:List Int):Option (Network×ByteArray×ByteArray×Int):=
 lP (qr g t a0) fun x1=>
 cl (qq g t x1) fun x2=>
 cl (oQ g t (Cur.mk x2.2.b x2.2.i x2.2.h) (Network.mk x2.1.Legs x2.1.Off x2.1.Change)) fun x3=>
 cl (oQ g t (Cur.mk x3.2.b x3.2.i x3.2.h) (Network.mk x2.1.Legs x2.1.Off x2.1.Change)) fun x4=>
 cl (rF g t (Cur.mk x4.2.b x4.2.i x4.2.h)) fun x5=>
 some (((Network.mk x2.1.Legs x2.1.Off x2.1.Change),x3.1,x4.1,x5.1))
theorem m7 {g:G} {t:TE} {a0:List Int} {r:Network×ByteArray×ByteArray×Int} (hg:g=G.real) (ht:t=TE.real) (h:eV g t a0=some r):Fn Tryz.prog 53 [.c (.s 1 (t.r_U8 a0))] (.u [.g ((Network.rs t r.1).map .r),.c (.r (.v (.string r.2.1))),.c (.r (.v (.string r.2.2.1))),.c (.r (.v (.int .i64 r.2.2.2)))]):=by
 obtain⟨X,hX⟩:=aC (.u [.g ((Network.rs t r.1).map .r),.c (.r (.v (.string r.2.1))),.c (.r (.v (.string r.2.2.1))),.c (.r (.v (.int .i64 r.2.2.2)))]:X);rw[←hX];refine ay (rvs:=rv53) (j:=(ir53 str_k0)) Tryz.func53 rfl (by kernel_rfl) (nb rfl) (by kernel_rfl) ac ?_;intro g2 F hg2 hF;obtain rfl:g2=g:=hg2.unique.trans hg.symm;clear hg2;obtain⟨_,_,_,_,_,_,_,_,_,_,_,_,_,_,_,_,_,_,_,_,_,_,_,_,_,_,_,_,_,rda⟩:=g2
 obtain⟨_,_,_,_,r_Leg,d_Leg,r_I64,d_I64⟩:=t;have hrda_Leg:∀l,rda (d_Leg l)=r_Leg l:=qe hg ht;have hrda_I64:∀l,rda (d_I64 l)=r_I64 l:=np hg ht;unfold eV at h;try dsimp only at h
 obtain⟨s_k0,hs_k0⟩:∃s,str_k0=s:=⟨_,rfl⟩;try rw[hs_k0] at h
 rw[hs_k0];cbv;obtain⟨x1,hx1,h⟩:=ah h;obtain⟨x1_b,x1_i,x1_h⟩:=x1;try dsimp only at h
 refine ACall.mk _ _ rfl (hF _ _ _ (Az hg ht hx1)) (.inl rfl) (nb rfl) ?_;cbv;obtain⟨x2,hx2,h⟩:=af h;obtain⟨⟨x2_1_Legs,x2_1_Off,x2_1_Change⟩,⟨x2_2_b,x2_2_i,x2_2_h⟩⟩:=x2;try dsimp only at h
 refine ACallMR.mk _ _ _ _ (.g [.r (.s 6 (r_Leg x2_1_Legs)),.r (.s 1 (r_I64 x2_1_Off)),.r (.v (.int .i64 x2_1_Change))]) rfl rfl (hF _ _ _ (Ak hg ht hx2)) rfl (nb rfl) (nb rfl) (by cbv;(try simp only[hrda_I64,hrda_Leg])) ?_;cbv;obtain⟨x3,hx3,h⟩:=af h;obtain⟨x3_1,⟨x3_2_b,x3_2_i,x3_2_h⟩⟩:=x3;try dsimp only at h
 refine ACallM.mk _ _ _ _ rfl rfl (hF _ _ _ (vu hg ht hx3)) rfl (nb rfl) (nb rfl) ?_;cbv;obtain⟨x4,hx4,h⟩:=af h;obtain⟨x4_1,⟨x4_2_b,x4_2_i,x4_2_h⟩⟩:=x4;try dsimp only at h
 refine ACallM.mk _ _ _ _ rfl rfl (hF _ _ _ (vu hg ht hx4)) rfl (nb rfl) (nb rfl) ?_;cbv;obtain⟨x5,hx5,h⟩:=af h;obtain⟨x5_1,⟨x5_2_b,x5_2_i,x5_2_h⟩⟩:=x5;try dsimp only at h
 refine ACallM.mk _ _ _ _ rfl rfl (hF _ _ _ (BZ hg ht hx5)) rfl (nb rfl) (nb rfl) ?_;cbv;obtain rfl:=Option.some.inj h;exact ARet.mk trivial hX.symm
def ir12 (s_k0:ByteArray):J:=js [jq 2 (.alloc [.n 6,.n 1,.r (.v (.int .i64 0))]),jq 3 (.mv (.k (.c (.r (.v (.string s_k0)))))),jq 4 (.mv (.k (.c (.r (.v (.string s_k0)))))),jm 5 (ki 0)] [0,2] (js [jm 6 0,jc 7 53 [6],jq 8 (.ext 0 7),jq 9 (.ext 1 7),jq 10 (.ext 2 7),jq 11 (.ext 3 7),jp (.st 3 2 8),jm 3 9,jm 4 10,jm 5 11] [2,3,4,5] .ret)
def rv12:List RV:=[.c 2 true 3,.t 3,.t 4,.t 5]
def dJ (g:G) (t:TE) (a0:List Int):Option (Network×ByteArray×ByteArray×Int):=
 cl (eV g t a0) fun x1=>
 some (((Network.mk x1.1.Legs x1.1.Off x1.1.Change),x1.2.1,x1.2.2.1,x1.2.2.2))
theorem ik {g:G} {t:TE} {a0:List Int} {r:Network×ByteArray×ByteArray×Int} (hg:g=G.real) (ht:t=TE.real) (h:dJ g t a0=some r):Fn Tryz.prog 12 [.c (.s 1 (t.r_U8 a0))] (.u [.g ((Network.rs t r.1).map .r),.c (.r (.v (.string r.2.1))),.c (.r (.v (.string r.2.2.1))),.c (.r (.v (.int .i64 r.2.2.2)))]):=by
 obtain⟨X,hX⟩:=aC (.u [.g ((Network.rs t r.1).map .r),.c (.r (.v (.string r.2.1))),.c (.r (.v (.string r.2.2.1))),.c (.r (.v (.int .i64 r.2.2.2)))]:X);rw[←hX];refine ay (rvs:=rv12) (j:=(ir12 str_k0)) Tryz.func12 rfl (by kernel_rfl) (nb rfl) (by kernel_rfl) ac ?_;intro g2 F hg2 hF;obtain rfl:g2=g:=hg2.unique.trans hg.symm;clear hg2;obtain⟨_⟩:=g2
 obtain⟨_⟩:=t;unfold dJ at h;try dsimp only at h
 obtain⟨s_k0,hs_k0⟩:∃s,str_k0=s:=⟨_,rfl⟩;try rw[hs_k0] at h
 rw[hs_k0];cbv;obtain⟨x1,hx1,h⟩:=af h;obtain⟨⟨x1_1_Legs,x1_1_Off,x1_1_Change⟩,x1_2_1,x1_2_2_1,x1_2_2_2⟩:=x1;try dsimp only at h
 refine ACall.mk _ _ rfl (hF _ _ _ (m7 hg ht hx1)) (.inl rfl) (nb rfl) ?_;cbv;obtain rfl:=Option.some.inj h;exact ARet.mk trivial hX.symm
def ir87:J:=js [jm 6 kf] [0,1,2] (js [jm 7 1,jm 8 0,jb 9 .leq .i 7 8,jm 10 9,ju 11 10 (.mv 0),ju 12 10 (.mv 2),ju 13 10 (.bin .leq .i 11 12),jq 14 (.pick 10 13 kf),jm 6 14] [6] .ret)
def rv87:List RV:=[.t 6]
def dO (g:G) (t:TE) (a0:Int) (a1:Int) (a2:Int):Bool:=
 br (g.le a1 a0)
 (
  (g.le a0 a2))
 (
  false)
theorem d8 {g:G} {t:TE} {a0:Int} {a1:Int} {a2:Int} {r:Bool} (hg:g=G.real) (ht:t=TE.real) (h:dO g t a0 a1 a2=r):Fn Tryz.prog 87 [.c (.v (.int .i64 a0)),.c (.v (.int .i64 a1)),.c (.v (.int .i64 a2))] (.c (.r (.v (.bool r)))):=by
 obtain⟨X,hX⟩:=aC (.c (.r (.v (.bool r))):X);rw[←hX];refine ay (rvs:=rv87) (j:=ir87) Tryz.func87 rfl (by kernel_rfl) (nb rfl) (by kernel_rfl) ac ?_;intro g2 F hg2 hF;obtain rfl:g2=g:=hg2.unique.trans hg.symm;clear hg2;obtain⟨_,_,le⟩:=g2;obtain⟨_⟩:=t
 unfold dO at h;try dsimp only at h
 cbv
 cases hb1:(le a1 a0)
 rotate_left
 ·rw[ab hb1] at h;cbv;iterate 3 try(rw[hb1];cbv)
  subst h;exact ARet.mk trivial hX.symm
 rw[aa hb1] at h;cbv;iterate 3 try(rw[hb1];cbv)
 subst h;exact ARet.mk trivial hX.symm
def G4:J:=js [jm 2 kf] [0] (.seq (js [jm 3 (ki 0)] [0,3] (.bl 0 (.seq (js [jm 4 3,jm 5 0,jq 6 (.len true 5),jb 7 .lss .i 4 6] [0,3,7] (.cond 7 .skip (.exit 0))) (.seq (.block 1 (js [jm 10 0,jm 11 3,jq 12 (.idx 10 11),jq 13 (.bin .lss .i 12 (.k (.c (.r (.v (.int .u8 65)))))),jm 14 13,jv 15 14 (.mv 0),jv 16 14 (.mv 3),jv 17 14 (.idx 15 16),jv 18 14 (.bin .gtr .i 17 (.k (.c (.r (.v (.int .u8 90)))))),jq 19 (.pick 14 kt 18)] [0,3,19] (.cond 19 (js [jm 2 kf] [2] .ret) .skip))) (.reg none [jm 8 3,jb 9 .add .i 8 (ki 1),jm 3 9] [0,3]))))) (js [jm 20 0,jq 21 (.len true 20),jb 22 .eql .i 21 (ki 3),jm 2 22] [2] .ret))
def Gn:List RV:=[.t 2]
def dk (g:G) (t:TE) (a0:ByteArray):Nat→Int→LR Bool Unit
 |0,v1=>
  (LR.out ())
 |n1+1,v1=>
  br (g.lt (g.byte a0 v1) 65)
  (
   (LR.ret false))
  (
   br (g.lt 90 (g.byte a0 v1))
   (
    (LR.ret false))
   (
    dk g t a0 n1 (g.wrap .i64 (g.add v1 1))))
def iA (g:G) (t:TE) (a0:ByteArray):Option Bool:=
 gd (((g.int (g.slen a0))≤9223372036854775807))<|
 lP (dk g t a0 (aA 0 (g.int (g.slen a0))) 0) fun o1=>lr o1 fun y1=>
 some (g.eq (g.int (g.slen a0)) 3)
theorem pS {g:G} {t:TE} {a0:ByteArray} {r:Bool} (hg:g=G.real) (ht:t=TE.real) (h:iA g t a0=some r):Fn Tryz.prog 148 [.c (.v (.string a0))] (.c (.r (.v (.bool r)))):=by
 obtain⟨X,hX⟩:=aC (.c (.r (.v (.bool r))):X);rw[←hX];refine ay (rvs:=Gn) (j:=G4) Tryz.func148 rfl (by kernel_rfl) (nb rfl) (by kernel_rfl) ac ?_;intro g2 F hg2 hF;obtain rfl:g2=g:=hg2.unique.trans hg.symm;clear hg2;obtain⟨wrap,lt,_,_,_,_,_,_,_,_,_,_,int,add,_,_,_,_,_,_,byte,_,_,_,_,_,_,_,_,_,_,_,_,_,_,slen⟩:=g2;obtain⟨_⟩:=t
 unfold iA at h;try dsimp only at h
 cbv;obtain⟨hB1,h⟩:=aj h;obtain⟨o1,ho1,h⟩:=ah h;try dsimp only at h
 try rw[hg] at ho1
 try rw[ht] at ho1
 refine ABL.mk {p:Nat×Int//p.1=aA p.2 (int (slen a0))∧0≤p.2∧dk G.real TE.real a0 p.1 p.2=o1} (fun⟨⟨n1,v1⟩,_⟩=>({sl:=[(0,.c (.r (.v (.string a0)))),(3,.c (.r (.v (.int .i64 v1))))],tab:=[]}:St)) 0 (fun p=>p.1.1) ⟨(aA 0 (int (slen a0)),0),rfl,Int.le_refl _,ho1⟩ (Unit) (fun _=>({sl:=[(0,.c (.r (.v (.string a0))))],tab:=[]}:St)) 0 (fun y=>o1=LR.out y) ?_ ?_ ?_
 ·refine Wk.of [] rfl rfl ?_ ?_
  ·cbv;all_goals exact⟨⟨_,rfl,rfl⟩,⟨_,rfl,rfl⟩,trivial⟩
  cbv;all_goals exact trivial
 ·rintro⟨⟨n1,v1⟩,hn1,hi1,h_1⟩ hq1;try dsimp only at hn1 hi1 h_1
  clear hq1;cbv;rcases n1 with _|n1
  ·have hb1:lt v1 (int (slen a0))=false:=bY hg hn1;rw[dk] at h_1;try rw[←hg] at h_1
   try rw[←ht] at h_1
   try dsimp only at h_1
   rw[hb1];cbv;refine⟨(),Wk.of [] rfl rfl ?_ ?_,h_1.symm⟩
   ·cbv;all_goals exact⟨⟨_,rfl,rfl⟩,trivial⟩
   cbv;all_goals exact trivial
  have hb1:lt v1 (int (slen a0))=true:=c7 hg hn1;have hl1:=fv hn1;have hs1:=d6 hg hn1 hi1 hB1 (by decide);rw[dk] at h_1;try rw[←hg] at h_1
  try rw[←ht] at h_1
  try dsimp only at h_1
  rw[hb1];cbv;refine AStep.mk (yH hg hi1 hl1) ?_;cbv
  cases hb2:(lt (byte a0 v1) 65)
  rotate_left
  ·rw[ab hb2] at h_1;cbv;iterate 4 try(rw[hb2];cbv)
   subst h_1;try dsimp only[lr,lrL,lrp,aZ] at h
   obtain rfl:=Option.some.inj h;exact ARet.mk trivial hX.symm
  rw[aa hb2] at h_1;cbv;iterate 2 try(rw[hb2];cbv)
  refine AStep.mk (yH hg hi1 hl1) ?_;cbv;iterate 2 try(rw[hb2];cbv)
  cases hb3:(lt 90 (byte a0 v1))
  rotate_left
  ·rw[ab hb3] at h_1;cbv;subst h_1;try dsimp only[lr,lrL,lrp,aZ] at h
   obtain rfl:=Option.some.inj h;exact ARet.mk trivial hX.symm
  rw[aa hb3] at h_1;cbv;try rw[hg] at h_1
  try rw[ht] at h_1
  refine⟨⟨(n1,(wrap .i64 (add v1 1))),hs1.1,hs1.2,h_1⟩,Wk.of [] rfl rfl ?_ ?_,Nat.lt_succ_self _⟩
  ·cbv;all_goals exact⟨⟨_,rfl,rfl⟩,⟨_,rfl,rfl⟩,trivial⟩
  cbv;all_goals exact trivial
 rintro _ hy1;replace hy1:=hy1.symm;subst hy1;try dsimp only[lr,lrL,lrp,aZ] at h
 cbv;obtain rfl:=Option.some.inj h;exact ARet.mk trivial hX.symm
def GB:J:=js [jq 1 (.box 0),jm 2 kf] [1] (js [jf 3 0 1,jk 4 3,jc 5 148 [4],jm 6 5,ju 7 6 (.fa 1 1),ju 8 6 (.ld false 1 7),ju 9 6 (.call 148 true [8]),jq 10 (.pick 6 9 kf),jm 11 10,ju 12 11 (.fa 0 1),ju 13 11 (.ld false 1 12),ju 14 11 (.fa 1 1),ju 15 11 (.ld false 1 14),ju 16 11 (.bin .neq .s 13 15),jq 17 (.pick 11 16 kf),jm 18 17,ju 19 18 (.fa 2 1),ju 20 18 (.ld false 1 19),ju 21 18 (.call 87 true [20,(ki 0),(ki 1439)]),jq 22 (.pick 18 21 kf),jm 23 22,ju 24 23 (.fa 3 1),ju 25 23 (.ld false 1 24),ju 26 23 (.call 87 true [25,(ki 1),(ki 4320)]),jq 27 (.pick 23 26 kf),jm 28 27,ju 29 28 (.fa 4 1),ju 30 28 (.ld false 1 29),ju 31 28 (.call 87 true [30,(ki 1),(ki 127)]),jq 32 (.pick 28 31 kf),jm 33 32,ju 34 33 (.fa 5 1),ju 35 33 (.ld false 1 34),ju 36 33 (.call 87 true [35,(ki 0),(ki 1000000)]),jq 37 (.pick 33 36 kf),jm 2 37] [2] .ret)
def GA:List RV:=[.t 2]
def nM (g:G) (t:TE) (a0:Leg):Option Bool:=
 cl (iA g t a0.From) fun x1=>
 br x1
 (
  cl (iA g t a0.To) fun x2=>
  br x2
  (
   br (g.seq a0.From a0.To)
   (
    some false)
   (
    lP (dO g t a0.Start 0 1439) fun x3=>
    br x3
    (
     lP (dO g t a0.Takes 1 4320) fun x4=>
     br x4
     (
      lP (dO g t a0.Days 1 127) fun x5=>
      br x5
      (
       lP (dO g t a0.Room 0 1000000) fun x6=>
       some x6)
      (
       some false))
     (
      some false))
    (
     some false)))
  (
   some false))
 (
  some false)
theorem Bh {g:G} {t:TE} {a0:Leg} {r:Bool} (hg:g=G.real) (ht:t=TE.real) (h:nM g t a0=some r):Fn Tryz.prog 108 [.g (Leg.rs t a0)] (.c (.r (.v (.bool r)))):=by
 obtain⟨X,hX⟩:=aC (.c (.r (.v (.bool r))):X);rw[←hX];refine ay (rvs:=GA) (j:=GB) Tryz.func108 rfl (by kernel_rfl) (nb rfl) (by kernel_rfl) ac ?_;intro g2 F hg2 hF;obtain rfl:g2=g:=hg2.unique.trans hg.symm;clear hg2;obtain⟨_,_,_,_,_,_,_,_,_,_,_,_,_,_,_,_,_,seq⟩:=g2;obtain⟨_⟩:=t
 obtain⟨a0_From,a0_To,a0_Start,a0_Takes,a0_Days,a0_Room⟩:=a0;unfold nM at h;try dsimp only at h
 cbv;obtain⟨x1,hx1,h⟩:=af h;try dsimp only at h
 refine ACall.mk _ _ rfl (hF _ _ _ (pS hg ht hx1)) (.inl rfl) (nb rfl) ?_;cbv
 cases hb1:x1
 ·rw[aa hb1] at h;cbv;iterate 3 try(rw[hb1];cbv)
  obtain rfl:=Option.some.inj h;exact ARet.mk trivial hX.symm
 rw[ab hb1] at h;cbv;iterate 2 try(rw[hb1];cbv)
 obtain⟨x2,hx2,h⟩:=af h;try dsimp only at h
 refine ACall.mk _ _ rfl (hF _ _ _ (pS hg ht hx2)) (.inl rfl) (nb rfl) ?_;cbv;try(rw[hb1];cbv)
 cases hb2:x2
 ·rw[aa hb2] at h;cbv;iterate 5 try(rw[hb2];cbv)
  obtain rfl:=Option.some.inj h;exact ARet.mk trivial hX.symm
 rw[ab hb2] at h;cbv;iterate 5 try(rw[hb2];cbv)
 cases hb3:(seq a0_From a0_To)
 rotate_left
 ·rw[ab hb3] at h;cbv;iterate 3 try(rw[hb3];cbv)
  obtain rfl:=Option.some.inj h;exact ARet.mk trivial hX.symm
 rw[aa hb3] at h;cbv;iterate 2 try(rw[hb3];cbv)
 obtain⟨x3,hx3,h⟩:=ah h;try dsimp only at h
 refine ACall.mk _ _ rfl (hF _ _ _ (d8 hg ht hx3)) (.inl rfl) (nb rfl) ?_;cbv;try(rw[hb3];cbv)
 cases hb4:x3
 ·rw[aa hb4] at h;cbv;iterate 3 try(rw[hb4];cbv)
  obtain rfl:=Option.some.inj h;exact ARet.mk trivial hX.symm
 rw[ab hb4] at h;cbv;iterate 2 try(rw[hb4];cbv)
 obtain⟨x4,hx4,h⟩:=ah h;try dsimp only at h
 refine ACall.mk _ _ rfl (hF _ _ _ (d8 hg ht hx4)) (.inl rfl) (nb rfl) ?_;cbv;try(rw[hb4];cbv)
 cases hb5:x4
 ·rw[aa hb5] at h;cbv;iterate 3 try(rw[hb5];cbv)
  obtain rfl:=Option.some.inj h;exact ARet.mk trivial hX.symm
 rw[ab hb5] at h;cbv;iterate 2 try(rw[hb5];cbv)
 obtain⟨x5,hx5,h⟩:=ah h;try dsimp only at h
 refine ACall.mk _ _ rfl (hF _ _ _ (d8 hg ht hx5)) (.inl rfl) (nb rfl) ?_;cbv;try(rw[hb5];cbv)
 cases hb6:x5
 ·rw[aa hb6] at h;cbv;iterate 3 try(rw[hb6];cbv)
  obtain rfl:=Option.some.inj h;exact ARet.mk trivial hX.symm
 rw[ab hb6] at h;cbv;iterate 2 try(rw[hb6];cbv)
 obtain⟨x6,hx6,h⟩:=ah h;try dsimp only at h
 refine ACall.mk _ _ rfl (hF _ _ _ (d8 hg ht hx6)) (.inl rfl) (nb rfl) ?_;cbv;try(rw[hb6];cbv)
 obtain rfl:=Option.some.inj h;exact ARet.mk trivial hX.symm
def ir54:J:=js [jq 1 (.box 0),jm 2 kf] [1] (.seq (js [jf 7 0 1,jk 8 7,jq 9 (.len false 8),jm 10 (ki 0)] [1,8,9,10] (.bl 0 (js [jb 11 .lss .i 10 9] [1,8,9,10,11] (.seq (.cond 11 .skip (.exit 0)) (.seq (.block 1 (js [ja 12 6 8 10,jl 13 6 12,jq 4 (.alloc [.r (.v (.string .empty)),.r (.v (.string .empty)),.r (.v (.int .i64 0)),.r (.v (.int .i64 0)),.r (.v (.int .i64 0)),.r (.v (.int .i64 0))]),jp (.st 6 4 13)] [1,4,8,9,10] (js [jl 14 6 4,jc 15 108 [14],jq 16 (.not 15)] [1,8,9,10,16] (.cond 16 (js [jm 2 kf] [2] .ret) .skip)))) (.reg none [jb 17 .add .i 10 (ki 1),jm 10 17] [1,8,9,10])))))) (.seq (js [jf 18 1 1,jk 19 18,jq 20 (.len false 19),jm 21 (ki 0)] [1,19,20,21] (.bl 2 (js [jb 22 .lss .i 21 20] [1,19,20,21,22] (.seq (.cond 22 .skip (.exit 2)) (.seq (.block 3 (js [jm 23 21,ja 24 1 19 21,jk 25 24,jm 5 23,jm 6 25] [1,5,6,19,20,21] (js [jm 26 6,jc 27 87 [26,(ki 0),(ki 60)],jq 28 (.not 27),jm 29 28,jv 30 29 (.mv 5),jv 31 29 (.bin .gtr .i 30 (ki 0)),jv 32 29 (.mv 31),ju 33 32 (.fa 1 1),ju 34 32 (.ld false 1 33),ju 35 32 (.mv 5),ju 36 32 (.bin .sub .i 35 (ki 1)),ju 37 32 (.ia 1 34 36),ju 38 32 (.ld false 1 37),ju 39 32 (.mv 6),ju 40 32 (.bin .geq .i 38 39),jv 41 29 (.pick 32 40 kf),jq 42 (.pick 29 kt 41)] [1,19,20,21,42] (.cond 42 (js [jm 2 kf] [2] .ret) .skip)))) (.reg none [jb 43 .add .i 21 (ki 1),jm 21 43] [1,19,20,21])))))) (js [jf 44 0 1,jk 45 44,jq 46 (.len false 45),jb 47 .leq .i 46 (ki 20),jm 48 47,ju 49 48 (.fa 1 1),ju 50 48 (.ld false 1 49),ju 51 48 (.len false 50),ju 52 48 (.bin .leq .i 51 (ki 10)),jq 53 (.pick 48 52 kf),jm 54 53,ju 55 54 (.fa 2 1),ju 56 54 (.ld false 1 55),ju 57 54 (.call 87 true [56,(ki 0),(ki 240)]),jq 58 (.pick 54 57 kf),jm 2 58] [2] .ret)))
def rv54:List RV:=[.t 2]
def bJ (g:G) (t:TE) (a0:Network):List Int→Int→Option (LR Bool Unit)
 |[],v2=>
  some (LR.out ())
 |z2::ls2,v2=>
  lP (dO g t z2 0 60) fun x2=>
  br x2
  (
   br (g.lt 0 v2)
   (
    gd (((0:Int)≤(g.wrap .i64 (g.sub v2 1))))<|
    gt a0.Off (g.nat (g.wrap .i64 (g.sub v2 1))) fun x3=>
    br (g.le z2 x3)
    (
     some (LR.ret false))
    (
     bJ g t a0 ls2 (g.wrap .i64 (g.add v2 1))))
   (
    bJ g t a0 ls2 (g.wrap .i64 (g.add v2 1))))
  (
   some (LR.ret false))
def cB (g:G) (t:TE):List Leg→Option (LR Bool Unit)
 |[]=>
  some (LR.out ())
 |z1::ls1=>
  cl (nM g t z1) fun x1=>
  br x1
  (
   cB g t ls1)
  (
   some (LR.ret false))
def cN (g:G) (t:TE) (a0:Network):Option Bool:=
 cl (cB g t a0.Legs) fun o1=>lr o1 fun y1=>
 cl (bJ g t a0 a0.Off 0) fun o2=>lr o2 fun y2=>
 br (g.le (g.llen (t.r_Leg a0.Legs)) 20)
 (
  br (g.le (g.llen (t.r_I64 a0.Off)) 10)
  (
   lP (dO g t a0.Change 0 240) fun x4=>
   some x4)
  (
   some false))
 (
  some false)
theorem fm {g:G} {t:TE} {a0:Network} {r:Bool} (hg:g=G.real) (ht:t=TE.real) (h:cN g t a0=some r):Fn Tryz.prog 54 [.g (Network.rs t a0)] (.c (.r (.v (.bool r)))):=by
 obtain⟨X,hX⟩:=aC (.c (.r (.v (.bool r))):X);rw[←hX];refine ay (rvs:=rv54) (j:=ir54) Tryz.func54 rfl (by kernel_rfl) (nb rfl) (by kernel_rfl) ac ?_;intro g2 F hg2 hF;obtain rfl:g2=g:=hg2.unique.trans hg.symm;clear hg2;obtain⟨wrap,lt,le,_,_,_,_,_,_,_,_,_,_,add,_,_,_,_,_,_,_,llen⟩:=g2;obtain⟨_,_,_,_,r_Leg,_,r_I64⟩:=t
 obtain⟨a0_Legs,a0_Off,a0_Change⟩:=a0;unfold cN at h;try dsimp only at h
 cbv;obtain⟨o1,ho1,h⟩:=af h;try dsimp only at h
 try rw[hg] at ho1
 try rw[ht] at ho1
 refine ABL.mk {p:Nat×Int//p.1≤a0_Legs.length∧p.2=((p.1:Nat):Int)∧cB G.real TE.real (List.drop p.1 a0_Legs)=some o1} (fun⟨⟨k1,v1⟩,_⟩=>({sl:=[(1,.c (.p 0 3 0 0)),(8,.c (.r (.s 6 (r_Leg a0_Legs)))),(9,.c (.r (.v (.int .i64 (llen (r_Leg a0_Legs)))))),(10,.c (.r (.v (.int .i64 v1))))],tab:=[(0,some (.foc 3 [] [.r (.s 6 (r_Leg a0_Legs)),.r (.s 1 (r_I64 a0_Off)),.r (.v (.int .i64 a0_Change))] []))]}:St)) 1 (fun p=>a0_Legs.length-p.1.1) ⟨(0,0),Nat.zero_le _,rfl,ho1⟩ (Unit) (fun _=>({sl:=[(1,.c (.p 0 3 0 0))],tab:=[(0,some (.foc 3 [] [.r (.s 6 (r_Leg a0_Legs)),.r (.s 1 (r_I64 a0_Off)),.r (.v (.int .i64 a0_Change))] []))]}:St)) 1 (fun y=>o1=LR.out y) ?_ ?_ ?_
 ·refine Wk.of [(0,some 0)] rfl rfl ?_ ?_
  ·cbv;all_goals exact⟨⟨_,rfl,rfl⟩,⟨_,rfl,rfl⟩,⟨_,rfl,rfl⟩,⟨_,rfl,rfl⟩,trivial⟩
  cbv;all_goals exact⟨⟨_,rfl,_,rfl,rfl,rfl,rfl,trivial⟩,trivial⟩
 ·rintro⟨⟨k1,v1⟩,hk1,hi1,h_1⟩ hq1;have hm1:=(hq1.1 8 _ _ rfl);try dsimp only at hk1 hi1 h_1
  clear hq1;cbv
  by_cases hc1_:k1<a0_Legs.length
  ·have hb1:lt v1 (llen (r_Leg a0_Legs))=true:=dC hg ht hi1 hc1_;have hs1:=fI hg ht hi1 hc1_ hm1;obtain⟨z1,hz1⟩:=aG hc1_;rw[ax hz1] at h_1;rw[cB] at h_1;obtain⟨z1_From,z1_To,z1_Start,z1_Takes,z1_Days,z1_Room⟩:=z1;try rw[←hg] at h_1
   try rw[←ht] at h_1
   try dsimp only at h_1
   rw[hb1];cbv;refine AStep.mk (ez hi1) ?_;cbv;refine AGet.mk _ (dY hg ht hi1 hz1) ?_;cbv;obtain⟨x1,hx1,h_1⟩:=af h_1;try dsimp only at h_1
   refine ACall.mk _ _ rfl (hF _ _ _ (Bh hg ht hx1)) (.inl rfl) (nb rfl) ?_;cbv
   cases hb2:x1
   ·rw[aa hb2] at h_1;cbv;obtain rfl:=Option.some.inj h_1;try dsimp only[lr,lrL,lrp,aZ] at h
    obtain rfl:=Option.some.inj h;exact ARet.mk trivial hX.symm
   rw[ab hb2] at h_1;cbv;try rw[hg] at h_1
   try rw[ht] at h_1
   refine⟨⟨(k1+1,(wrap .i64 (add v1 1))),hc1_,hs1,h_1⟩,Wk.of [(0,some 0)] rfl rfl ?_ ?_,aK hc1_⟩
   ·cbv;all_goals exact⟨⟨_,rfl,rfl⟩,⟨_,rfl,rfl⟩,⟨_,rfl,rfl⟩,⟨_,rfl,rfl⟩,trivial⟩
   cbv;all_goals exact⟨⟨_,rfl,_,rfl,rfl,rfl,rfl,trivial⟩,trivial⟩
  have hb1:lt v1 (llen (r_Leg a0_Legs))=false:=cP hg ht hi1 hc1_;rw[List.drop_of_length_le (Nat.le_of_not_lt hc1_)] at h_1;rw[cB] at h_1;try rw[←hg] at h_1
  try rw[←ht] at h_1
  try dsimp only at h_1
  rw[hb1];cbv;refine⟨(),Wk.of [(0,some 0)] rfl rfl ?_ ?_,(Option.some.inj h_1).symm⟩
  ·cbv;all_goals exact⟨⟨_,rfl,rfl⟩,trivial⟩
  cbv;all_goals exact⟨⟨_,rfl,_,rfl,rfl,rfl,rfl,trivial⟩,trivial⟩
 rintro _ hy1;replace hy1:=hy1.symm;subst hy1;try dsimp only[lr,lrL,lrp,aZ] at h
 cbv;obtain⟨o2,ho2,h⟩:=af h;try dsimp only at h
 try rw[hg] at ho2
 try rw[ht] at ho2
 refine ABL.mk {p:Nat×Int//p.1≤a0_Off.length∧p.2=((p.1:Nat):Int)∧bJ G.real TE.real (Network.mk a0_Legs a0_Off a0_Change) (List.drop p.1 a0_Off) p.2=some o2} (fun⟨⟨k2,v2⟩,_⟩=>({sl:=[(1,.c (.p 0 3 0 0)),(19,.c (.r (.s 1 (r_I64 a0_Off)))),(20,.c (.r (.v (.int .i64 (llen (r_I64 a0_Off)))))),(21,.c (.r (.v (.int .i64 v2))))],tab:=[(0,some (.foc 3 [] [.r (.s 6 (r_Leg a0_Legs)),.r (.s 1 (r_I64 a0_Off)),.r (.v (.int .i64 a0_Change))] []))]}:St)) 1 (fun p=>a0_Off.length-p.1.1) ⟨(0,0),Nat.zero_le _,rfl,ho2⟩ (Unit) (fun _=>({sl:=[(1,.c (.p 0 3 0 0))],tab:=[(0,some (.foc 3 [] [.r (.s 6 (r_Leg a0_Legs)),.r (.s 1 (r_I64 a0_Off)),.r (.v (.int .i64 a0_Change))] []))]}:St)) 1 (fun y=>o2=LR.out y) ?_ ?_ ?_
 ·refine Wk.of [(0,some 0)] rfl rfl ?_ ?_
  ·cbv;all_goals exact⟨⟨_,rfl,rfl⟩,⟨_,rfl,rfl⟩,⟨_,rfl,rfl⟩,⟨_,rfl,rfl⟩,trivial⟩
  cbv;all_goals exact⟨⟨_,rfl,_,rfl,rfl,rfl,rfl,trivial⟩,trivial⟩
 ·rintro⟨⟨k2,v2⟩,hk2,hi2,h_2⟩ hq2;have hm2:=(hq2.1 19 _ _ rfl);try dsimp only at hk2 hi2 h_2
  clear hq2;cbv
  by_cases hc2_:k2<a0_Off.length
  ·have hb3:lt v2 (llen (r_I64 a0_Off))=true:=fX hg ht hi2 hc2_;have hs2:=jU hg ht hi2 hc2_ hm2;obtain⟨z2,hz2⟩:=aG hc2_;rw[ax hz2] at h_2;rw[bJ] at h_2;try rw[←hg] at h_2
   try rw[←ht] at h_2
   try dsimp only at h_2
   rw[hb3];cbv;refine AStep.mk (ez hi2) ?_;cbv;refine AGet.mk _ (gP hg ht hi2 hz2) ?_;cbv;obtain⟨x2,hx2,h_2⟩:=ah h_2;try dsimp only at h_2
   refine ACall.mk _ _ rfl (hF _ _ _ (d8 hg ht hx2)) (.inl rfl) (nb rfl) ?_;cbv
   cases hb4:x2
   ·rw[aa hb4] at h_2;cbv;iterate 4 try(rw[hb4];cbv)
    obtain rfl:=Option.some.inj h_2;try dsimp only[lr,lrL,lrp,aZ] at h
    obtain rfl:=Option.some.inj h;exact ARet.mk trivial hX.symm
   rw[ab hb4] at h_2;cbv;iterate 2 try(rw[hb4];cbv)
   cases hb5:(lt 0 v2)
   ·rw[aa hb5] at h_2;cbv;iterate 7 try(rw[hb5];cbv)
    try(rw[hb4];cbv)
    try(rw[hb5];cbv)
    try(rw[hb4];cbv)
    try rw[hg] at h_2
    try rw[ht] at h_2
    refine⟨⟨(k2+1,(wrap .i64 (add v2 1))),hc2_,hs2,h_2⟩,Wk.of [(0,some 0)] rfl rfl ?_ ?_,aK hc2_⟩
    ·cbv;all_goals exact⟨⟨_,rfl,rfl⟩,⟨_,rfl,rfl⟩,⟨_,rfl,rfl⟩,⟨_,rfl,rfl⟩,trivial⟩
    cbv;all_goals exact⟨⟨_,rfl,_,rfl,rfl,rfl,rfl,trivial⟩,trivial⟩
   rw[ab hb5] at h_2;cbv;iterate 4 try(rw[hb5];cbv)
   obtain⟨hc1,h_2⟩:=aj h_2;refine AStep.mk hc1 ?_;cbv;obtain⟨x3,hx3,h_2⟩:=aD h_2;try dsimp only at h_2
   refine AGet.mk _ (ei hg ht hx3) ?_;cbv;iterate 3 try(rw[hb5];cbv)
   try(rw[hb4];cbv)
   try(rw[hb5];cbv)
   try(rw[hb4];cbv)
   cases hb6:(le z2 x3)
   rotate_left
   ·rw[ab hb6] at h_2;cbv;obtain rfl:=Option.some.inj h_2;try dsimp only[lr,lrL,lrp,aZ] at h
    obtain rfl:=Option.some.inj h;exact ARet.mk trivial hX.symm
   rw[aa hb6] at h_2;cbv;try rw[hg] at h_2
   try rw[ht] at h_2
   refine⟨⟨(k2+1,(wrap .i64 (add v2 1))),hc2_,hs2,h_2⟩,Wk.of [(0,some 0)] rfl rfl ?_ ?_,aK hc2_⟩
   ·cbv;all_goals exact⟨⟨_,rfl,rfl⟩,⟨_,rfl,rfl⟩,⟨_,rfl,rfl⟩,⟨_,rfl,rfl⟩,trivial⟩
   cbv;all_goals exact⟨⟨_,rfl,_,rfl,rfl,rfl,rfl,trivial⟩,trivial⟩
  have hb3:lt v2 (llen (r_I64 a0_Off))=false:=fj hg ht hi2 hc2_;rw[List.drop_of_length_le (Nat.le_of_not_lt hc2_)] at h_2;rw[bJ] at h_2;try rw[←hg] at h_2
  try rw[←ht] at h_2
  try dsimp only at h_2
  rw[hb3];cbv;refine⟨(),Wk.of [(0,some 0)] rfl rfl ?_ ?_,(Option.some.inj h_2).symm⟩
  ·cbv;all_goals exact⟨⟨_,rfl,rfl⟩,trivial⟩
  cbv;all_goals exact⟨⟨_,rfl,_,rfl,rfl,rfl,rfl,trivial⟩,trivial⟩
 rintro _ hy2;replace hy2:=hy2.symm;subst hy2;try dsimp only[lr,lrL,lrp,aZ] at h
 cbv
 cases hb7:(le (llen (r_Leg a0_Legs)) 20)
 ·rw[aa hb7] at h;cbv;iterate 4 try(rw[hb7];cbv)
  obtain rfl:=Option.some.inj h;exact ARet.mk trivial hX.symm
 rw[ab hb7] at h;cbv;iterate 4 try(rw[hb7];cbv)
 cases hb8:(le (llen (r_I64 a0_Off)) 10)
 ·rw[aa hb8] at h;cbv;iterate 3 try(rw[hb8];cbv)
  obtain rfl:=Option.some.inj h;exact ARet.mk trivial hX.symm
 rw[ab hb8] at h;cbv;iterate 2 try(rw[hb8];cbv)
 obtain⟨x4,hx4,h⟩:=ah h;try dsimp only at h
 refine ACall.mk _ _ rfl (hF _ _ _ (d8 hg ht hx4)) (.inl rfl) (nb rfl) ?_;cbv;try(rw[hb8];cbv)
 obtain rfl:=Option.some.inj h;exact ARet.mk trivial hX.symm
end Go.Vs
namespace Go.Proofs
open Go.RowKit Go.Sort
set_option maxHeartbeats 2000000
set_option maxRecDepth 100000
def Tryz.lays192_ren : Go.Shelf.Ren := ⟨fun | 192 => 136 | 190 => 172 | 125 => 181 | 258 => 180 | 128 => 193 | 129 => 194 | 302 => 184 | 303 => 185 | 304 => 186 | 305 => 187 | 306 => 188 | 307 => 189 | 308 => 190 | 309 => 191 | 310 => 192 | 333 => 195 | 329 => 196 | 330 => 197 | 334 => 198 | 335 => 199 | 336 => 200 | 344 => 201 | n => n, fun | 31 => 66 | 0 => 0 | 9 => 9 | 3 => 3 | 46 => 170 | 51 => 185 | 53 => 187 | 4 => 4 | 183 => 177 | 182 => 176 | 131 => 182 | 5 => 5 | 218 => 188 | 222 => 192 | 228 => 194 | 229 => 195 | n => n, fun | n => n⟩
theorem Tryz.lays192 : Go.Proofs.Lays.n192 Tryz.prog Tryz.lays192_ren := {
  mixed := by kernel_rfl
  f125 := Tryz.func181.trans (congrArg some (by kernel_rfl))
  f128 := Tryz.func193.trans (congrArg some (by kernel_rfl))
  f129 := Tryz.func194.trans (congrArg some (by kernel_rfl))
  f190 := Tryz.func172.trans (congrArg some (by kernel_rfl))
  f192 := Tryz.func136.trans (congrArg some (by kernel_rfl))
  f258 := Tryz.func180.trans (congrArg some (by kernel_rfl))
  f302 := Tryz.func184.trans (congrArg some (by kernel_rfl))
  f303 := Tryz.func185.trans (congrArg some (by kernel_rfl))
  f304 := Tryz.func186.trans (congrArg some (by kernel_rfl))
  f305 := Tryz.func187.trans (congrArg some (by kernel_rfl))
  f306 := Tryz.func188.trans (congrArg some (by kernel_rfl))
  f307 := Tryz.func189.trans (congrArg some (by kernel_rfl))
  f308 := Tryz.func190.trans (congrArg some (by kernel_rfl))
  f309 := Tryz.func191.trans (congrArg some (by kernel_rfl))
  f310 := Tryz.func192.trans (congrArg some (by kernel_rfl))
  f329 := Tryz.func196.trans (congrArg some (by kernel_rfl))
  f330 := Tryz.func197.trans (congrArg some (by kernel_rfl))
  f333 := Tryz.func195.trans (congrArg some (by kernel_rfl))
  f334 := Tryz.func198.trans (congrArg some (by kernel_rfl))
  f335 := Tryz.func199.trans (congrArg some (by kernel_rfl))
  f336 := Tryz.func200.trans (congrArg some (by kernel_rfl))
  f344 := Tryz.func201.trans (congrArg some (by kernel_rfl))
  t0 := Tryz.underlying0
  a0 := Tryz.isAgg0
  z0 := Tryz.sizeOf0
  v0 := Tryz.zeroValue0
  t3 := Tryz.underlying3
  a3 := Tryz.isAgg3
  z3 := Tryz.sizeOf3
  v3 := Tryz.zeroValue3
  t4 := Tryz.underlying4
  a4 := Tryz.isAgg4
  z4 := Tryz.sizeOf4
  v4 := Tryz.zeroValue4
  t5 := Tryz.underlying5
  a5 := Tryz.isAgg5
  z5 := Tryz.sizeOf5
  v5 := Tryz.zeroValue5
  t9 := Tryz.underlying9
  a9 := Tryz.isAgg9
  z9 := Tryz.sizeOf9
  v9 := Tryz.zeroValue9
  t31 := Tryz.underlying66
  a31 := Tryz.isAgg66
  z31 := Tryz.sizeOf66
  v31 := Tryz.zeroValue66
  t46 := Tryz.underlying170
  a46 := Tryz.isAgg170
  z46 := Tryz.sizeOf170
  v46 := Tryz.zeroValue170
  t51 := Tryz.underlying185
  a51 := Tryz.isAgg185
  z51 := Tryz.sizeOf185
  v51 := Tryz.zeroValue185
  t53 := Tryz.underlying187
  a53 := Tryz.isAgg187
  z53 := Tryz.sizeOf187
  v53 := Tryz.zeroValue187
  t131 := Tryz.underlying182
  a131 := Tryz.isAgg182
  z131 := Tryz.sizeOf182
  v131 := Tryz.zeroValue182
  t182 := Tryz.underlying176
  a182 := Tryz.isAgg176
  z182 := Tryz.sizeOf176
  v182 := Tryz.zeroValue176
  t183 := Tryz.underlying177
  a183 := Tryz.isAgg177
  z183 := Tryz.sizeOf177
  v183 := Tryz.zeroValue177
  t218 := Tryz.underlying188
  a218 := Tryz.isAgg188
  z218 := Tryz.sizeOf188
  v218 := Tryz.zeroValue188
  t222 := Tryz.underlying192
  a222 := Tryz.isAgg192
  z222 := Tryz.sizeOf192
  v222 := Tryz.zeroValue192
  t228 := Tryz.underlying194
  a228 := Tryz.isAgg194
  z228 := Tryz.sizeOf194
  v228 := Tryz.zeroValue194
  t229 := Tryz.underlying195
  a229 := Tryz.isAgg195
  z229 := Tryz.sizeOf195
  v229 := Tryz.zeroValue195 }
theorem Tryz.insS_nil (p:Option Addr) (cap:Nat) (w:World):
 Calls Tryz.prog 184 #[.slice p 0 cap,.int .i64 0,.int .i64 0] w fun e w'=>e=.returned (.tuple #[])∧w'=w:=by
 go_enter Tryz.func184,Tryz.ntmps184
 go_wp2
 refine wp_loop_rounds 1 ?_
 rw[rounds_succ]
 go_wp2
 go_end0
 exact⟨rfl,rfl⟩
theorem Tryz.pdqS_nil (p:Option Addr) (cap:Nat) (w:World):
 Calls Tryz.prog 180 #[.slice p 0 cap,.int .i64 0,.int .i64 0,.int .i64 0] w fun e w'=>e=.returned (.tuple #[])∧w'=w:=by
 go_enter Tryz.func180,Tryz.ntmps180
 go_wp2
 refine wp_loop_rounds 1 ?_
 rw[rounds_succ]
 go_wp2_with (first|(go_at_call 184;refine(Tryz.insS_nil p cap _).mono ?_;rintro e w' ⟨rfl,rfl⟩))
 refine bodyPost_ret (results_none rfl _ _ _) rfl ?_
 exact⟨rfl,rfl⟩
theorem Tryz.sortS_nil (p:Option Addr) (cap:Nat) (w:World):
 Calls Tryz.prog 172 #[.slice p 0 cap] w fun e w'=>e=.returned (.tuple #[])∧w'=w:=by
 have hLen:∀w,Calls Tryz.prog 181 #[.int .u64 0] w fun e w'=>e=.returned (.int .i64 0)∧w'=w:=fun w=>calls_of_every_depth fun D=>AnyS.bits_LenInS {Tryz.lays192 with} D 0 w (by omega) (by omega)
 go_enter Tryz.func172,Tryz.ntmps172
 go_wp2_with (first
  |(go_at_call 181;refine(hLen _).mono ?_;rintro e w' ⟨rfl,rfl⟩)
  |(go_at_call 180;refine(Tryz.pdqS_nil p cap _).mono ?_;rintro e w' ⟨rfl,rfl⟩))
 go_end0
 exact⟨rfl,rfl⟩
theorem Tryz.strs_nil (p:Option Addr) (cap:Nat) (w:World):
 Calls Tryz.prog 136 #[.slice p 0 cap] w fun e w'=>e=.returned (.tuple #[])∧w'=w:=by
 go_enter Tryz.func136,Tryz.ntmps136
 go_wp2_with (first|(go_at_call 172;refine(Tryz.sortS_nil p cap _).mono ?_;rintro e w' ⟨rfl,rfl⟩))
 go_end0
 exact⟨rfl,rfl⟩
end Go.Proofs
namespace Go.Vs
open Go.Proofs Go.RowKit
set_option linter.unusedVariables false
def iK (g:G) (t:TE) (a0:List ByteArray):Option (List ByteArray):=gd (a0.length<4611686018427387904)<|some (mK a0)
theorem oH {g:G} {t:TE} {a0 r:List ByteArray} (hg:g=G.real) (ht:t=TE.real) (h:iK g t a0=some r):FnM Tryz.prog 136 (.m (.o 1 (t.d_S a0))) [] (.u []) (.m (.o 1 (t.d_S r))):=by
 obtain⟨hl,h⟩:=aj h;cases h
 subst ht;exact zP a0 hl (fun blk cap w hH hb=>calls_of_every_depth fun D=>AnyS.sort_Strings_in Tryz.lays192 D blk 0 cap (a0.map bOf) w hH hb (by simpa using hl)) (fun e w=>Tryz.strs_nil none 0 w)
set_option maxRecDepth 100000
def ir82:J:=js [jq 1 (.box 0),jq 2 (.mv (.k (.c (.n 1))))] [1] (js [jq 9 (.mkm true),jm 3 9] [1,3] (js [jq 10 (.bsl 1 []),jm 4 10] [1,3,4] (.seq (js [jf 11 0 1,jk 12 11,jq 13 (.len false 12),jm 14 (ki 0)] [3,4,12,13,14] (.bl 0 (js [jb 15 .lss .i 14 13] [3,4,12,13,14,15] (.seq (.cond 15 .skip (.exit 0)) (.seq (.block 1 (js [ja 16 6 12 14,jl 17 6 16,jq 6 (.alloc [.r (.v (.string .empty)),.r (.v (.string .empty)),.r (.v (.int .i64 0)),.r (.v (.int .i64 0)),.r (.v (.int .i64 0)),.r (.v (.int .i64 0))]),jp (.st 6 6 17)] [3,4,6,12,13,14] (js [jf 18 0 6,jk 19 18,jf 20 1 6,jk 21 20,jq 22 (.bsl 1 [19,21]),jq 23 (.len false 22),jm 24 (ki 0)] [3,4,12,13,14,22,23,24] (.bl 2 (js [jb 25 .lss .i 24 23] [3,4,12,13,14,22,23,24,25] (.seq (.cond 25 .skip (.exit 2)) (.seq (.block 3 (js [ja 26 1 22 24,jk 27 26,jm 8 27] [3,4,8,12,13,14,22,23,24] (js [jm 28 3,jm 29 8,jq 30 (.mlk true 28 29),jq 31 (.not 30)] [3,4,8,12,13,14,22,23,24,31] (.cond 31 (js [jm 32 3,jm 33 8,jp (.mup true 32 33)] [3,4,8,12,13,14,22,23,24] (.reg none [jm 34 4,jm 35 8,jq 36 (.bsl 1 [35]),jq 37 (.app 1 16 true 34 36),jm 4 37] [3,4,12,13,14,22,23,24])) .skip)))) (.reg none [jb 38 .add .i 24 (ki 1),jm 24 38] [3,4,12,13,14,22,23,24])))))))) (.reg none [jb 39 .add .i 14 (ki 1),jm 14 39] [3,4,12,13,14])))))) (js [jm 40 4,jq 41 (.callm 136 true 40 [])] [4] (js [jm 42 4,jm 2 42] [2] .ret)))))
def rv82:List RV:=[.t 2]
open Go.Proofs Go.IntWalk
set_option maxHeartbeats 4000000
def ct (g:G) (t:TE) (l2:List ByteArray):Nat→Int→List ByteArray→List ByteArray→Option ((List ByteArray)×List ByteArray)
 |0,v2,w3,w4=>
  some (w3,w4)
 |n2+1,v2,w3,w4=>
  gt l2 (g.nat v2) fun x1=>
  br (g.hasS w3 x1)
  (
   ct g t l2 n2 (g.wrap .i64 (g.add v2 1)) w3 w4)
  (
   lP ([x1]) fun(l3:List ByteArray)=>
   gd (((w4.length+l3.length)*16≤70368744177664))<|
   lP (w4++l3) fun(l4:List ByteArray)=>
   ct g t l2 n2 (g.wrap .i64 (g.add v2 1)) (g.putS w3 x1) l4)
def cU (g:G) (t:TE):List Leg→List ByteArray→List ByteArray→Option (List ByteArray)
 |[],w1,w2=>
  some w2
 |z1::ls1,w1,w2=>
  lP ([z1.From,z1.To]) fun(l2:List ByteArray)=>
  gd (((g.int (g.dlen (t.d_S l2)))≤9223372036854775807))<|
  cl (ct g t l2 (aA 0 (g.int (g.dlen (t.d_S l2)))) 0 w1 w2) fun y1=>
  cU g t ls1 y1.1 y1.2
def dH (g:G) (t:TE) (a0:Network):Option (List ByteArray):=
 lP ([]) fun(l1:List ByteArray)=>
 cl (cU g t a0.Legs [] l1) fun y2=>
 cl (iK g t y2) fun x2=>
 gd ((x2.length=y2.length))<|
 some x2
theorem eZ {g:G} {t:TE} {a0:Network} {r:List ByteArray} (hg:g=G.real) (ht:t=TE.real) (h:dH g t a0=some r):Fn Tryz.prog 82 [.g (Network.rs t a0)] (.c (.o 1 (t.d_S r))):=by
 obtain⟨X,hX⟩:=aC (.c (.o 1 (t.d_S r)):X);rw[←hX];refine ay (rvs:=rv82) (j:=ir82) Tryz.func82 rfl (by kernel_rfl) (nb rfl) (by kernel_rfl) ac ?_;intro g2 F hg2 hF;obtain rfl:g2=g:=hg2.unique.trans hg.symm;clear hg2;obtain⟨wrap,lt,_,_,_,_,_,_,_,_,_,_,int,add,_,_,_,_,_,_,_,llen,_,_,dlen,_,_,_,_,_,_,_,_,_,_,_,_,_,hasS,putS⟩:=g2;obtain⟨_,_,_,_,r_Leg,_,_,_,_,_,_,_,_,d_S⟩:=t
 obtain⟨a0_Legs,a0_Off,a0_Change⟩:=a0;unfold dH at h;try dsimp only at h
 cbv;obtain⟨l1,hl1,h⟩:=ah h;try dsimp only at h
 refine ANew.mk (d_S l1) (dlen (d_S l1)) (by rw[←hl1];exact i5 hg ht []) (by rw[←hl1];exact gQ hg ht []) ?_;cbv;obtain⟨o1,ho1,h⟩:=af h;try dsimp only at h
 try rw[hg] at ho1
 try rw[ht] at ho1
 refine ABL.mk {p:Nat×Int×(List ByteArray)×List ByteArray//p.1≤a0_Legs.length∧p.2.1=((p.1:Nat):Int)∧cU G.real TE.real (List.drop p.1 a0_Legs) p.2.2.1 p.2.2.2=some o1} (fun⟨⟨k1,v1,w1,w2⟩,_⟩=>({sl:=[(3,.c (.m 0)),(4,.c (.f 1 1 0 (dlen (d_S w2)))),(12,.c (.r (.s 6 (r_Leg a0_Legs)))),(13,.c (.r (.v (.int .i64 (llen (r_Leg a0_Legs)))))),(14,.c (.r (.v (.int .i64 v1))))],tab:=[(0,some (.ms w1)),(1,some (.arr 1 (d_S w2)))]}:St)) 2 (fun p=>a0_Legs.length-p.1.1) ⟨(0,0,[],l1),Nat.zero_le _,rfl,ho1⟩ (List ByteArray) (fun y2=>({sl:=[(4,.c (.f 0 1 0 (dlen (d_S y2))))],tab:=[(0,some (.arr 1 (d_S y2)))]}:St)) 1 (fun y=>o1=y) ?_ ?_ ?_
 ·refine Wk.of [(0,some 32),(1,some 64)] rfl rfl ?_ ?_
  ·cbv;all_goals exact⟨⟨_,rfl,rfl⟩,⟨_,rfl,rfl⟩,⟨_,rfl,rfl⟩,⟨_,rfl,rfl⟩,⟨_,rfl,rfl⟩,trivial⟩
  cbv;all_goals exact⟨⟨_,rfl,rfl⟩,⟨_,rfl,rfl⟩,trivial⟩
 ·rintro⟨⟨k1,v1,w1,w2⟩,hk1,hi1,h_1⟩ hq1;have hm1:=(hq1.1 12 _ _ rfl);try dsimp only at hk1 hi1 h_1
  clear hq1;cbv
  by_cases hc1_:k1<a0_Legs.length
  ·have hb1:lt v1 (llen (r_Leg a0_Legs))=true:=dC hg ht hi1 hc1_;have hs1:=fI hg ht hi1 hc1_ hm1;obtain⟨z1,hz1⟩:=aG hc1_;rw[ax hz1] at h_1;rw[cU] at h_1;obtain⟨z1_From,z1_To,z1_Start,z1_Takes,z1_Days,z1_Room⟩:=z1;try rw[←hg] at h_1
   try rw[←ht] at h_1
   try dsimp only at h_1
   rw[hb1];cbv;refine AStep.mk (ez hi1) ?_;cbv;refine AGet.mk _ (dY hg ht hi1 hz1) ?_;cbv;obtain⟨l2,hl2,h_1⟩:=ah h_1;try dsimp only at h_1
   refine ANew.mk (d_S l2) (dlen (d_S l2)) (by rw[←hl2];exact i5 hg ht [z1_From,z1_To]) (by rw[←hl2];exact gQ hg ht [z1_From,z1_To]) ?_;cbv;obtain⟨hB2,h_1⟩:=aj h_1;obtain⟨o2,ho2,h_1⟩:=af h_1;try dsimp only at h_1
   try rw[hg] at ho2
   try rw[ht] at ho2
   refine ABL.mk {p:Nat×Int×(List ByteArray)×List ByteArray//p.1=aA p.2.1 (int (dlen (d_S l2)))∧0≤p.2.1∧ct G.real TE.real l2 p.1 p.2.1 p.2.2.1 p.2.2.2=some o2} (fun⟨⟨n2,v2,w3,w4⟩,_⟩=>({sl:=[(3,.c (.m 0)),(4,.c (.f 1 1 0 (dlen (d_S w4)))),(12,.c (.r (.s 6 (r_Leg a0_Legs)))),(13,.c (.r (.v (.int .i64 (llen (r_Leg a0_Legs)))))),(14,.c (.r (.v (.int .i64 v1)))),(22,.c (.f 2 1 0 (dlen (d_S l2)))),(23,.c (.r (.v (.int .i64 (int (dlen (d_S l2))))))),(24,.c (.r (.v (.int .i64 v2))))],tab:=[(0,some (.ms w3)),(1,some (.arr 1 (d_S w4))),(2,some (.arr 1 (d_S l2)))]}:St)) 3 (fun p=>p.1.1) ⟨(aA 0 (int (dlen (d_S l2))),0,w1,w2),rfl,Int.le_refl _,ho2⟩ ((List ByteArray)×List ByteArray) (fun⟨y1_1,y1_2⟩=>({sl:=[(3,.c (.m 0)),(4,.c (.f 1 1 0 (dlen (d_S y1_2)))),(12,.c (.r (.s 6 (r_Leg a0_Legs)))),(13,.c (.r (.v (.int .i64 (llen (r_Leg a0_Legs)))))),(14,.c (.r (.v (.int .i64 v1))))],tab:=[(0,some (.ms y1_1)),(1,some (.arr 1 (d_S y1_2)))]}:St)) 2 (fun y=>o2=y) ?_ ?_ ?_
   ·refine Wk.of [(0,some 0),(1,some 1),(2,some 146)] rfl rfl ?_ ?_
    ·cbv;all_goals exact⟨⟨_,rfl,rfl⟩,⟨_,rfl,rfl⟩,⟨_,rfl,rfl⟩,⟨_,rfl,rfl⟩,⟨_,rfl,rfl⟩,⟨_,rfl,rfl⟩,⟨_,rfl,rfl⟩,⟨_,rfl,rfl⟩,trivial⟩
    cbv;all_goals exact⟨⟨_,rfl,rfl⟩,⟨_,rfl,rfl⟩,⟨_,rfl,rfl⟩,trivial⟩
   ·rintro⟨⟨n2,v2,w3,w4⟩,hn2,hi2,h_2⟩ hq2;try dsimp only at hn2 hi2 h_2
    clear hq2;cbv;rcases n2 with _|n2
    ·have hb2:lt v2 (int (dlen (d_S l2)))=false:=bY hg hn2;rw[ct] at h_2;try rw[←hg] at h_2
     try rw[←ht] at h_2
     try dsimp only at h_2
     rw[hb2];cbv;refine⟨(w3,w4),Wk.of [(0,some 0),(1,some 1)] rfl rfl ?_ ?_,(Option.some.inj h_2).symm⟩
     ·cbv;all_goals exact⟨⟨_,rfl,rfl⟩,⟨_,rfl,rfl⟩,⟨_,rfl,rfl⟩,⟨_,rfl,rfl⟩,⟨_,rfl,rfl⟩,trivial⟩
     cbv;all_goals exact⟨⟨_,rfl,rfl⟩,⟨_,rfl,rfl⟩,trivial⟩
    have hb2:lt v2 (int (dlen (d_S l2)))=true:=c7 hg hn2;have hl2:=fv hn2;have hs2:=d6 hg hn2 hi2 hB2 (by decide);rw[ct] at h_2;try rw[←hg] at h_2
    try rw[←ht] at h_2
    try dsimp only at h_2
    rw[hb2];cbv;refine AStep.mk (lz hg hi2 hl2) ?_;cbv;obtain⟨x1,hx1,h_2⟩:=aD h_2;try dsimp only at h_2
    refine AGet.mk _ (kb hg ht hx1) ?_;cbv
    cases hb3:(hasS w3 x1)
    rotate_left
    ·rw[ab hb3] at h_2;cbv;try rw[hg] at h_2
     try rw[ht] at h_2
     refine⟨⟨(n2,(wrap .i64 (add v2 1)),w3,w4),hs2.1,hs2.2,h_2⟩,Wk.of [(0,some 0),(1,some 1),(2,some 2)] rfl rfl ?_ ?_,Nat.lt_succ_self _⟩
     ·cbv;all_goals exact⟨⟨_,rfl,rfl⟩,⟨_,rfl,rfl⟩,⟨_,rfl,rfl⟩,⟨_,rfl,rfl⟩,⟨_,rfl,rfl⟩,⟨_,rfl,rfl⟩,⟨_,rfl,rfl⟩,⟨_,rfl,rfl⟩,trivial⟩
     cbv;all_goals exact⟨⟨_,rfl,rfl⟩,⟨_,rfl,rfl⟩,⟨_,rfl,rfl⟩,trivial⟩
    rw[aa hb3] at h_2;cbv;obtain⟨l3,hl3,h_2⟩:=ah h_2;try dsimp only at h_2
    refine ANew.mk (d_S l3) (dlen (d_S l3)) (by rw[←hl3];exact i5 hg ht [x1]) (by rw[←hl3];exact gQ hg ht [x1]) ?_;cbv;obtain⟨hc1,h_2⟩:=aj h_2;refine AStep.mk ⟨⟨rfl,(ap hg ht _)⟩,(dz hg ht (ap hg ht _) rfl hc1)⟩ ?_;cbv;obtain⟨l4,hl4,h_2⟩:=ah h_2;try dsimp only at h_2
    refine ANew.mk (d_S l4) (dlen (d_S l4)) (by rw[←hl4];exact i8 hg ht (ap hg ht _) rfl) (by rw[←hl4];exact gc hg ht (ap hg ht _) rfl) ?_;cbv;try rw[hg] at h_2
    try rw[ht] at h_2
    refine⟨⟨(n2,(wrap .i64 (add v2 1)),(putS w3 x1),l4),hs2.1,hs2.2,h_2⟩,Wk.of [(0,some 0),(1,some 227),(2,some 2)] rfl rfl ?_ ?_,Nat.lt_succ_self _⟩
    ·cbv;all_goals exact⟨⟨_,rfl,rfl⟩,⟨_,rfl,rfl⟩,⟨_,rfl,rfl⟩,⟨_,rfl,rfl⟩,⟨_,rfl,rfl⟩,⟨_,rfl,rfl⟩,⟨_,rfl,rfl⟩,⟨_,rfl,rfl⟩,trivial⟩
    cbv;all_goals exact⟨⟨_,rfl,rfl⟩,⟨_,rfl,rfl⟩,⟨_,rfl,rfl⟩,trivial⟩
   rintro⟨y1_1,y1_2⟩ hy2;replace hy2:=hy2.symm;subst hy2;try dsimp only[lr,lrL,lrp,aZ] at h_1
   cbv;try rw[hg] at h_1
   try rw[ht] at h_1
   refine⟨⟨(k1+1,(wrap .i64 (add v1 1)),y1_1,y1_2),hc1_,hs1,h_1⟩,Wk.of [(0,some 0),(1,some 1)] rfl rfl ?_ ?_,aK hc1_⟩
   ·cbv;all_goals exact⟨⟨_,rfl,rfl⟩,⟨_,rfl,rfl⟩,⟨_,rfl,rfl⟩,⟨_,rfl,rfl⟩,⟨_,rfl,rfl⟩,trivial⟩
   cbv;all_goals exact⟨⟨_,rfl,rfl⟩,⟨_,rfl,rfl⟩,trivial⟩
  have hb1:lt v1 (llen (r_Leg a0_Legs))=false:=cP hg ht hi1 hc1_;rw[List.drop_of_length_le (Nat.le_of_not_lt hc1_)] at h_1;rw[cU] at h_1;try rw[←hg] at h_1
  try rw[←ht] at h_1
  try dsimp only at h_1
  rw[hb1];cbv;refine⟨w2,Wk.of [(0,some 1)] rfl rfl ?_ ?_,(Option.some.inj h_1).symm⟩
  ·cbv;all_goals exact⟨⟨_,rfl,rfl⟩,trivial⟩
  cbv;all_goals exact⟨⟨_,rfl,rfl⟩,trivial⟩
 rintro y2 hy1;replace hy1:=hy1.symm;subst hy1;try dsimp only[lr,lrL,lrp,aZ] at h
 cbv;refine AStep.mk ⟨rfl,(ap hg ht _)⟩ ?_;cbv;obtain⟨x2,hx2,h⟩:=af h;try dsimp only at h
 refine ACallM.mk _ _ _ _ rfl rfl (hF _ _ _ (oH hg ht hx2)) rfl (nb rfl) (nb rfl) ?_;cbv;obtain⟨hc2,h⟩:=aj h;obtain rfl:=Option.some.inj h;exact ARet.mk ⟨rfl,(FG ht (ap hg ht _) hc2)⟩ hX.symm
def ir84:J:=js [jm 4 (ki 0)] [0,1] (.seq (js [jm 7 0,jq 8 (.len false 7),jm 9 (ki 0)] [1,7,8,9] (.bl 0 (js [jb 10 .lss .i 9 8] [1,7,8,9,10] (.seq (.cond 10 .skip (.exit 0)) (.seq (.block 1 (js [jm 11 9,ja 12 1 7 9,jk 13 12,jm 5 11,jm 6 13] [1,5,6,7,8,9] (js [jm 14 6,jm 15 1,jb 16 .eql .s 14 15] [1,5,7,8,9,16] (.cond 16 (js [jm 17 5,jm 4 17] [4] .ret) .skip)))) (.reg none [jb 18 .add .i 9 (ki 1),jm 9 18] [1,7,8,9])))))) (js [jq 4 (.mv (.k (V.i (-1))))] [4] .ret))
def rv84:List RV:=[.t 4]
def bM (g:G) (t:TE) (a1:ByteArray):List ByteArray→Int→LR Int Unit
 |[],v1=>
  (LR.out ())
 |z1::ls1,v1=>
  br (g.seq z1 a1)
  (
   (LR.ret v1))
  (
   bM g t a1 ls1 (g.wrap .i64 (g.add v1 1)))
def cD (g:G) (t:TE) (a0:List ByteArray) (a1:ByteArray):Int:=
 lP (bM g t a1 a0 0) fun o1=>lrp o1 fun y1=>
 (-1)
theorem dh {g:G} {t:TE} {a0:List ByteArray} {a1:ByteArray} {r:Int} (hg:g=G.real) (ht:t=TE.real) (h:cD g t a0 a1=r):Fn Tryz.prog 84 [.c (.s 1 (t.r_S a0)),.c (.v (.string a1))] (.c (.r (.v (.int .i64 r)))):=by
 obtain⟨X,hX⟩:=aC (.c (.r (.v (.int .i64 r))):X);rw[←hX];refine ay (rvs:=rv84) (j:=ir84) Tryz.func84 rfl (by kernel_rfl) (nb rfl) (by kernel_rfl) ac ?_;intro g2 F hg2 hF;obtain rfl:g2=g:=hg2.unique.trans hg.symm;clear hg2;obtain⟨wrap,lt,_,_,_,_,_,_,_,_,_,_,_,add,_,_,_,seq,_,_,_,llen⟩:=g2;obtain⟨_,_,_,_,_,_,_,_,_,_,_,_,r_S⟩:=t
 unfold cD at h;try dsimp only at h
 cbv;obtain⟨o1,ho1,h⟩:=ah h;try dsimp only at h
 try rw[hg] at ho1
 try rw[ht] at ho1
 refine ABL.mk {p:Nat×Int//p.1≤a0.length∧p.2=((p.1:Nat):Int)∧bM G.real TE.real a1 (List.drop p.1 a0) p.2=o1} (fun⟨⟨k1,v1⟩,_⟩=>({sl:=[(1,.c (.r (.v (.string a1)))),(7,.c (.r (.s 1 (r_S a0)))),(8,.c (.r (.v (.int .i64 (llen (r_S a0)))))),(9,.c (.r (.v (.int .i64 v1))))],tab:=[]}:St)) 0 (fun p=>a0.length-p.1.1) ⟨(0,0),Nat.zero_le _,rfl,ho1⟩ (Unit) (fun _=>({sl:=[],tab:=[]}:St)) 0 (fun y=>o1=LR.out y) ?_ ?_ ?_
 ·refine Wk.of [] rfl rfl ?_ ?_
  ·cbv;all_goals exact⟨⟨_,rfl,rfl⟩,⟨_,rfl,rfl⟩,⟨_,rfl,rfl⟩,⟨_,rfl,rfl⟩,trivial⟩
  cbv;all_goals exact trivial
 ·rintro⟨⟨k1,v1⟩,hk1,hi1,h_1⟩ hq1;have hm1:=(hq1.1 7 _ _ rfl);try dsimp only at hk1 hi1 h_1
  clear hq1;cbv
  by_cases hc1_:k1<a0.length
  ·have hb1:lt v1 (llen (r_S a0))=true:=kn hg ht hi1 hc1_;have hs1:=ql hg ht hi1 hc1_ hm1;obtain⟨z1,hz1⟩:=aG hc1_;rw[ax hz1] at h_1;rw[bM] at h_1;try rw[←hg] at h_1
   try rw[←ht] at h_1
   try dsimp only at h_1
   rw[hb1];cbv;refine AStep.mk (ez hi1) ?_;cbv;refine AGet.mk _ (so hg ht hi1 hz1) ?_;cbv
   cases hb2:(seq z1 a1)
   rotate_left
   ·rw[ab hb2] at h_1;cbv;subst h_1;try dsimp only[lr,lrL,lrp,aZ] at h
    subst h;exact ARet.mk trivial hX.symm
   rw[aa hb2] at h_1;cbv;try rw[hg] at h_1
   try rw[ht] at h_1
   refine⟨⟨(k1+1,(wrap .i64 (add v1 1))),hc1_,hs1,h_1⟩,Wk.of [] rfl rfl ?_ ?_,aK hc1_⟩
   ·cbv;all_goals exact⟨⟨_,rfl,rfl⟩,⟨_,rfl,rfl⟩,⟨_,rfl,rfl⟩,⟨_,rfl,rfl⟩,trivial⟩
   cbv;all_goals exact trivial
  have hb1:lt v1 (llen (r_S a0))=false:=i7 hg ht hi1 hc1_;rw[List.drop_of_length_le (Nat.le_of_not_lt hc1_)] at h_1;rw[bM] at h_1;try rw[←hg] at h_1
  try rw[←ht] at h_1
  try dsimp only at h_1
  rw[hb1];cbv;refine⟨(),Wk.of [] rfl rfl ?_ ?_,h_1.symm⟩
  ·cbv;all_goals exact trivial
  cbv;all_goals exact trivial
 rintro _ hy1;replace hy1:=hy1.symm;subst hy1;try dsimp only[lr,lrL,lrp,aZ] at h
 cbv;subst h;exact ARet.mk trivial hX.symm
def ir85:J:=js [jq 2 (.box 0),jq 3 (.box 1),jm 4 (ki 0)] [2,3] (.seq (.reg (some [[],[0],[0,1],[],[3],[],[5],[3,4,5,6],[3,4,5,6,7],[3,4,5,6,7,8],[0,1,2,3,4,5,6,7,8,9],[0,1,2,3,4,5,6,7,8,9,10]]) [jf 5 1 3,jk 6 5,jb 7 .mul .i 6 (ki 1440),jf 8 0 2,jk 9 8,jf 10 0 3,jk 11 10,ja 12 6 9 11,jf 13 2 12,jk 14 13,jb 15 .add .i 7 14,jm 4 15] [4]) .ret)
def rv85:List RV:=[.t 4]
def bK (g:G) (t:TE) (a0:Network) (a1:Trip):Option Int:=
 gd (((0:Int)≤a1.Leg))<|
 gt a0.Legs (g.nat a1.Leg) fun x1=>
 some (g.wrap .i64 (g.add (g.wrap .i64 (g.mul a1.Day 1440)) x1.Start))
theorem bX {g:G} {t:TE} {a0:Network} {a1:Trip} {r:Int} (hg:g=G.real) (ht:t=TE.real) (h:bK g t a0 a1=some r):Fn Tryz.prog 85 [.g (Network.rs t a0),.g (Trip.rs t a1)] (.c (.r (.v (.int .i64 r)))):=by
 obtain⟨X,hX⟩:=aC (.c (.r (.v (.int .i64 r))):X);rw[←hX];refine ay (rvs:=rv85) (j:=ir85) Tryz.func85 rfl (by kernel_rfl) (nb rfl) (by kernel_rfl) ac ?_;intro g2 F hg2 hF;obtain rfl:g2=g:=hg2.unique.trans hg.symm;clear hg2;obtain⟨_⟩:=g2;obtain⟨_⟩:=t
 obtain⟨a0_Legs,a0_Off,a0_Change⟩:=a0;obtain⟨a1_Leg,a1_Day⟩:=a1;unfold bK at h;try dsimp only at h
 cbv;obtain⟨hc1,h⟩:=aj h;refine AStep.mk hc1 ?_;cbv;obtain⟨x1,hx1,h⟩:=aD h;obtain⟨x1_From,x1_To,x1_Start,x1_Takes,x1_Days,x1_Room⟩:=x1;try dsimp only at h
 refine AGet.mk _ (aY hg ht hx1) ?_;cbv;obtain rfl:=Option.some.inj h;exact ARet.mk trivial hX.symm
def ir86:J:=js [jq 2 (.box 0),jq 3 (.box 1),jm 4 (ki 0)] [2,3] (.seq (.reg (some [[],[],[0,1],[],[3],[],[5],[3,4,5,6],[3,4,5,6,7],[3,4,5,6,7,8],[0,1,2,3,4,5,6,7,8,9],[0,1,2,3,4,5,6,7,8,9,10]]) [jl 5 3 2,jl 6 2 3,jc 7 85 [5,6],jf 8 0 2,jk 9 8,jf 10 0 3,jk 11 10,ja 12 6 9 11,jf 13 3 12,jk 14 13,jb 15 .add .i 7 14,jm 4 15] [4]) .ret)
def rv86:List RV:=[.t 4]
def ew (g:G) (t:TE) (a0:Network) (a1:Trip):Option Int:=
 cl (bK g t a0 a1) fun x1=>
 gd (((0:Int)≤a1.Leg))<|
 gt a0.Legs (g.nat a1.Leg) fun x2=>
 some (g.wrap .i64 (g.add x1 x2.Takes))
theorem ee {g:G} {t:TE} {a0:Network} {a1:Trip} {r:Int} (hg:g=G.real) (ht:t=TE.real) (h:ew g t a0 a1=some r):Fn Tryz.prog 86 [.g (Network.rs t a0),.g (Trip.rs t a1)] (.c (.r (.v (.int .i64 r)))):=by
 obtain⟨X,hX⟩:=aC (.c (.r (.v (.int .i64 r))):X);rw[←hX];refine ay (rvs:=rv86) (j:=ir86) Tryz.func86 rfl (by kernel_rfl) (nb rfl) (by kernel_rfl) ac ?_;intro g2 F hg2 hF;obtain rfl:g2=g:=hg2.unique.trans hg.symm;clear hg2;obtain⟨_⟩:=g2;obtain⟨_⟩:=t
 obtain⟨a0_Legs,a0_Off,a0_Change⟩:=a0;obtain⟨a1_Leg,a1_Day⟩:=a1;unfold ew at h;try dsimp only at h
 cbv;obtain⟨x1,hx1,h⟩:=af h;try dsimp only at h
 refine ACall.mk _ _ rfl (hF _ _ _ (bX hg ht hx1)) (.inl rfl) (nb rfl) ?_;cbv;obtain⟨hc1,h⟩:=aj h;refine AStep.mk hc1 ?_;cbv;obtain⟨x2,hx2,h⟩:=aD h;obtain⟨x2_From,x2_To,x2_Start,x2_Takes,x2_Days,x2_Room⟩:=x2;try dsimp only at h
 refine AGet.mk _ (aY hg ht hx2) ?_;cbv;obtain rfl:=Option.some.inj h;exact ARet.mk trivial hX.symm
def HY:J:=js [jq 3 (.box 0),jm 6 (ki 0)] [1,2,3] (.seq (js [jm 7 2] [1,3,7] (.cond 7 (js [jm 8 1,jm 6 8] [6] .ret) .skip)) (js [jm 9 1,jf 10 2 3,jk 11 10,jb 12 .add .i 9 11,jm 6 12] [6] .ret))
def HJ:List RV:=[.t 6]
def fP (g:G) (t:TE) (a0:Network) (a1:Int) (a2:Bool):Int:=
 br a2
 (
  a1)
 (
  (g.wrap .i64 (g.add a1 a0.Change)))
theorem pz {g:G} {t:TE} {a0:Network} {a1:Int} {a2:Bool} {r:Int} (hg:g=G.real) (ht:t=TE.real) (h:fP g t a0 a1 a2=r):Fn Tryz.prog 149 [.g (Network.rs t a0),.c (.v (.int .i64 a1)),.c (.v (.bool a2))] (.c (.r (.v (.int .i64 r)))):=by
 obtain⟨X,hX⟩:=aC (.c (.r (.v (.int .i64 r))):X);rw[←hX];refine ay (rvs:=HJ) (j:=HY) Tryz.func149 rfl (by kernel_rfl) (nb rfl) (by kernel_rfl) ac ?_;intro g2 F hg2 hF;obtain rfl:g2=g:=hg2.unique.trans hg.symm;clear hg2;obtain⟨_⟩:=g2;obtain⟨_⟩:=t
 obtain⟨a0_Legs,a0_Off,a0_Change⟩:=a0;unfold fP at h;try dsimp only at h
 cbv
 cases hb1:a2
 rotate_left
 ·rw[ab hb1] at h;cbv;subst h;exact ARet.mk trivial hX.symm
 rw[aa hb1] at h;cbv;subst h;exact ARet.mk trivial hX.symm
def HN:J:=js [jq 3 (.box 0),jm 6 kf] [1,2,3] (.seq (js [jm 9 1,jb 10 .lss .i 9 (ki 0),jm 11 10,jv 12 11 (.mv 1),jv 13 11 (.fa 0 3),jv 14 11 (.ld false 1 13),jv 15 11 (.len false 14),jv 16 11 (.bin .geq .i 12 15),jq 17 (.pick 11 kt 16),jm 18 17,jv 19 18 (.mv 2),jv 20 18 (.call 87 true [19,(ki 0),(ki 60)]),jv 21 18 (.not 20),jq 22 (.pick 18 kt 21),jm 23 22,jv 24 23 (.fa 0 3),jv 25 23 (.ld false 1 24),jv 26 23 (.mv 1),jv 27 23 (.ia 6 25 26),jv 28 23 (.fa 4 27),jv 29 23 (.ld false 1 28),jv 30 23 (.mv 2),jv 31 23 (.bin .rem .i 30 (ki 7)),jv 32 23 (.bin .shr .i 29 31),jv 33 23 (.bin .and .i 32 (ki 1)),jv 34 23 (.bin .eql .i 33 (ki 0)),jq 35 (.pick 23 kt 34)] [2,3,35] (.cond 35 (js [jm 6 kf] [6] .ret) .skip)) (.seq (js [jf 36 1 3,jk 37 36,jq 38 (.len false 37),jm 39 (ki 0)] [2,37,38,39] (.bl 0 (js [jb 40 .lss .i 39 38] [2,37,38,39,40] (.seq (.cond 40 .skip (.exit 0)) (.seq (.block 1 (js [ja 41 1 37 39,jk 42 41,jm 8 42] [2,8,37,38,39] (js [jm 43 8,jm 44 2,jb 45 .eql .i 43 44] [2,37,38,39,45] (.cond 45 (js [jm 6 kf] [6] .ret) .skip)))) (.reg none [jb 46 .add .i 39 (ki 1),jm 39 46] [2,37,38,39])))))) (js [jm 6 kt] [6] .ret)))
def Gt:List RV:=[.t 6]
def fJ (g:G) (t:TE) (a2:Int):List Int→LR Bool Unit
 |[]=>
  (LR.out ())
 |z1::ls1=>
  br (g.eq z1 a2)
  (
   (LR.ret false))
  (
   fJ g t a2 ls1)
def kS (g:G) (t:TE) (a0:Network) (a1:Int) (a2:Int):Option Bool:=
 br (g.lt a1 0)
 (
  some false)
 (
  br (g.le (g.llen (t.r_Leg a0.Legs)) a1)
  (
   some false)
  (
   lP (dO g t a2 0 60) fun x1=>
   br x1
   (
    gd (((0:Int)≤a1))<|
    gt a0.Legs (g.nat a1) fun x2=>
    gd (((0:Int)≤(g.rem a2 7)))<|
    br (g.eq (g.band .i64 (g.shr .i64 x2.Days (g.rem a2 7)) 1) 0)
    (
     some false)
    (
     lP (fJ g t a2 a0.Off) fun o1=>lr o1 fun y1=>
     some true))
   (
    some false)))
theorem nt {g:G} {t:TE} {a0:Network} {a1:Int} {a2:Int} {r:Bool} (hg:g=G.real) (ht:t=TE.real) (h:kS g t a0 a1 a2=some r):Fn Tryz.prog 100 [.g (Network.rs t a0),.c (.v (.int .i64 a1)),.c (.v (.int .i64 a2))] (.c (.r (.v (.bool r)))):=by
 obtain⟨X,hX⟩:=aC (.c (.r (.v (.bool r))):X);rw[←hX];refine ay (rvs:=Gt) (j:=HN) Tryz.func100 rfl (by kernel_rfl) (nb rfl) (by kernel_rfl) ac ?_;intro g2 F hg2 hF;obtain rfl:g2=g:=hg2.unique.trans hg.symm;clear hg2;obtain⟨wrap,lt,le,eq,_,rem,band,_,_,_,shr,_,_,add,_,_,_,_,_,_,_,llen⟩:=g2;obtain⟨_,_,_,_,r_Leg,_,r_I64⟩:=t
 obtain⟨a0_Legs,a0_Off,a0_Change⟩:=a0;unfold kS at h;try dsimp only at h
 cbv
 cases hb1:(lt a1 0)
 rotate_left
 ·rw[ab hb1] at h;cbv;iterate 5 try(rw[hb1];cbv)
  obtain rfl:=Option.some.inj h;exact ARet.mk trivial hX.symm
 rw[aa hb1] at h;cbv;iterate 5 try(rw[hb1];cbv)
 cases hb2:(le (llen (r_Leg a0_Legs)) a1)
 rotate_left
 ·rw[ab hb2] at h;cbv;iterate 3 try(rw[hb2];cbv)
  obtain rfl:=Option.some.inj h;exact ARet.mk trivial hX.symm
 rw[aa hb2] at h;cbv;try(rw[hb2];cbv)
 obtain⟨x1,hx1,h⟩:=ah h;try dsimp only at h
 refine ACall.mk _ _ rfl (hF _ _ _ (d8 hg ht hx1)) (.inl rfl) (nb rfl) ?_;cbv;iterate 2 try(rw[hb2];cbv)
 cases hb3:x1
 ·rw[aa hb3] at h;cbv;iterate 11 try(rw[hb3];cbv)
  obtain rfl:=Option.some.inj h;exact ARet.mk trivial hX.symm
 rw[ab hb3] at h;cbv;iterate 3 try(rw[hb3];cbv)
 obtain⟨hc1,h⟩:=aj h;refine AStep.mk hc1 ?_;cbv;obtain⟨x2,hx2,h⟩:=aD h;obtain⟨x2_From,x2_To,x2_Start,x2_Takes,x2_Days,x2_Room⟩:=x2;try dsimp only at h
 refine AGet.mk _ (aY hg ht hx2) ?_;cbv;iterate 4 try(rw[hb3];cbv)
 refine AStep.mk (by decide) ?_;cbv;try(rw[hb3];cbv)
 obtain⟨hc2,h⟩:=aj h;refine AStep.mk hc2 ?_;cbv;iterate 3 try(rw[hb3];cbv)
 cases hb4:(eq (band .i64 (shr .i64 x2_Days (rem a2 7)) 1) 0)
 rotate_left
 ·rw[ab hb4] at h;cbv;obtain rfl:=Option.some.inj h;exact ARet.mk trivial hX.symm
 rw[aa hb4] at h;cbv;obtain⟨o1,ho1,h⟩:=ah h;try dsimp only at h
 try rw[hg] at ho1
 try rw[ht] at ho1
 refine ABL.mk {p:Nat×Int//p.1≤a0_Off.length∧p.2=((p.1:Nat):Int)∧fJ G.real TE.real a2 (List.drop p.1 a0_Off)=o1} (fun⟨⟨k1,v1⟩,_⟩=>({sl:=[(2,.c (.r (.v (.int .i64 a2)))),(37,.c (.r (.s 1 (r_I64 a0_Off)))),(38,.c (.r (.v (.int .i64 (llen (r_I64 a0_Off)))))),(39,.c (.r (.v (.int .i64 v1))))],tab:=[]}:St)) 0 (fun p=>a0_Off.length-p.1.1) ⟨(0,0),Nat.zero_le _,rfl,ho1⟩ (Unit) (fun _=>({sl:=[],tab:=[]}:St)) 0 (fun y=>o1=LR.out y) ?_ ?_ ?_
 ·refine Wk.of [] rfl rfl ?_ ?_
  ·cbv;all_goals exact⟨⟨_,rfl,rfl⟩,⟨_,rfl,rfl⟩,⟨_,rfl,rfl⟩,⟨_,rfl,rfl⟩,trivial⟩
  cbv;all_goals exact trivial
 ·rintro⟨⟨k1,v1⟩,hk1,hi1,h_1⟩ hq1;have hm1:=(hq1.1 37 _ _ rfl);try dsimp only at hk1 hi1 h_1
  clear hq1;cbv
  by_cases hc1_:k1<a0_Off.length
  ·have hb5:lt v1 (llen (r_I64 a0_Off))=true:=fX hg ht hi1 hc1_;have hs1:=jU hg ht hi1 hc1_ hm1;obtain⟨z1,hz1⟩:=aG hc1_;rw[ax hz1] at h_1;rw[fJ] at h_1;try rw[←hg] at h_1
   try rw[←ht] at h_1
   try dsimp only at h_1
   rw[hb5];cbv;refine AStep.mk (ez hi1) ?_;cbv;refine AGet.mk _ (gP hg ht hi1 hz1) ?_;cbv
   cases hb6:(eq z1 a2)
   rotate_left
   ·rw[ab hb6] at h_1;cbv;subst h_1;try dsimp only[lr,lrL,lrp,aZ] at h
    obtain rfl:=Option.some.inj h;exact ARet.mk trivial hX.symm
   rw[aa hb6] at h_1;cbv;try rw[hg] at h_1
   try rw[ht] at h_1
   refine⟨⟨(k1+1,(wrap .i64 (add v1 1))),hc1_,hs1,h_1⟩,Wk.of [] rfl rfl ?_ ?_,aK hc1_⟩
   ·cbv;all_goals exact⟨⟨_,rfl,rfl⟩,⟨_,rfl,rfl⟩,⟨_,rfl,rfl⟩,⟨_,rfl,rfl⟩,trivial⟩
   cbv;all_goals exact trivial
  have hb5:lt v1 (llen (r_I64 a0_Off))=false:=fj hg ht hi1 hc1_;rw[List.drop_of_length_le (Nat.le_of_not_lt hc1_)] at h_1;rw[fJ] at h_1;try rw[←hg] at h_1
  try rw[←ht] at h_1
  try dsimp only at h_1
  rw[hb5];cbv;refine⟨(),Wk.of [] rfl rfl ?_ ?_,h_1.symm⟩
  ·cbv;all_goals exact trivial
  cbv;all_goals exact trivial
 rintro _ hy1;replace hy1:=hy1.symm;subst hy1;try dsimp only[lr,lrL,lrp,aZ] at h
 cbv;obtain rfl:=Option.some.inj h;exact ARet.mk trivial hX.symm
end Go.Vs
