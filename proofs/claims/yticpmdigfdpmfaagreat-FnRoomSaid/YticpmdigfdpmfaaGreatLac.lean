/- Part of the proofs of this seat's laws: Lac. No condition. -/
import Derived.Test.YticpmdigfdpmfaaGreatTy
import Derived.Test.YticpmdigfdpmfaaGreatTIRall
import Derived.Test.YticpmdigfdpmfaaGreatLab
import Derived.Test.YticpmdigfdpmfaaGreatVg
import Derived.Test.YticpmdigfdpmfaaGreatProg
import Derived.Shelf.Sort.AssemblysIn
import Derived.Shelf.Sort.So_math_bits_LenInS
import Derived.Shelf.Lay
import Derived.Sort.EveryDepth
import Derived.Lib.Walk
import Derived.LoopN
set_option linter.unusedVariables false
set_option linter.unusedSimpArgs false
set_option linter.unusedSectionVars false
namespace Go.Vs
set_option maxRecDepth 100000
def ir95:J:=js [jm 2 (ki 0)] [0] (.seq (js [jm 5 0,jq 6 (.len false 5),jm 7 (ki 0)] [5,6,7] (.bl 0 (js [jb 8 .lss .i 7 6] [5,6,7,8] (.seq (.cond 8 .skip (.exit 0)) (.seq (.block 1 (js [ja 9 1 5 7,jk 10 9,jm 4 10] [4,5,6,7] (js [jm 11 4,jb 12 .neq .i 11 (ki 0)] [4,5,6,7,12] (.cond 12 (js [jm 13 4,jm 2 13] [2] .ret) .skip)))) (.reg none [jb 14 .add .i 7 (ki 1),jm 7 14] [5,6,7])))))) (js [jm 2 (ki 0)] [2] .ret))
def rv95:List RV:=[.t 2]
open Go.Proofs Go.IntWalk
set_option linter.unusedVariables false
set_option maxHeartbeats 4000000
def f8 (g:G) (t:TE):List Int→LR Int Unit
 |[]=>
  (LR.out ())
 |z1::ls1=>
  br (g.eq z1 0)
  (
   f8 g t ls1)
  (
   (LR.ret z1))
def mO (g:G) (t:TE) (a0:List Int):Int:=
 lP (f8 g t a0) fun o1=>lrp o1 fun y1=>
 0
theorem yG {g:G} {t:TE} {a0:List Int} {r:Int} (hg:g=G.real) (ht:t=TE.real) (h:mO g t a0=r):Fn Tryz.prog 95 [.c (.s 1 (t.r_I64 a0))] (.c (.r (.v (.int .i64 r)))):=by
 obtain⟨X,hX⟩:=aJ (.c (.r (.v (.int .i64 r))):X);rw[←hX];refine aE (rvs:=rv95) (j:=ir95) Tryz.func95 rfl (by kernel_rfl) (nb rfl) (by kernel_rfl) ac ?_;intro g2 F hg2 hF;obtain rfl:g2=g:=hg2.unique.trans hg.symm;clear hg2;obtain⟨wrap,lt,_,eq,_,_,_,_,_,_,_,_,_,add,_,_,_,_,_,_,_,llen⟩:=g2;obtain⟨_,_,_,_,_,_,r_I64⟩:=t
 unfold mO at h;try dsimp only at h
 cbv;obtain⟨o1,ho1,h⟩:=ag h;try dsimp only at h
 try rw[hg] at ho1
 try rw[ht] at ho1
 refine ABL.mk {p:Nat×Int//p.1≤a0.length∧p.2=((p.1:Nat):Int)∧f8 G.real TE.real (List.drop p.1 a0)=o1} (fun⟨⟨k1,v1⟩,_⟩=>({sl:=[(5,.c (.r (.s 1 (r_I64 a0)))),(6,.c (.r (.v (.int .i64 (llen (r_I64 a0)))))),(7,.c (.r (.v (.int .i64 v1))))],tab:=[]}:St)) 0 (fun p=>a0.length-p.1.1) ⟨(0,0),Nat.zero_le _,rfl,ho1⟩ (Unit) (fun _=>({sl:=[],tab:=[]}:St)) 0 (fun y=>o1=LR.out y) ?_ ?_ ?_
 ·refine Wk.of [] rfl rfl ?_ ?_
  ·cbv;all_goals exact⟨⟨_,rfl,rfl⟩,⟨_,rfl,rfl⟩,⟨_,rfl,rfl⟩,trivial⟩
  cbv;all_goals exact trivial
 ·rintro⟨⟨k1,v1⟩,hk1,hi1,h_1⟩ hq1;have hm1:=(hq1.1 5 _ _ rfl);try dsimp only at hk1 hi1 h_1
  clear hq1;cbv
  by_cases hc1_:k1<a0.length
  ·have hb1:lt v1 (llen (r_I64 a0))=true:=fW hg ht hi1 hc1_;have hs1:=jt hg ht hi1 hc1_ hm1;obtain⟨z1,hz1⟩:=av hc1_;rw[aq hz1] at h_1;rw[f8] at h_1;try rw[←hg] at h_1
   try rw[←ht] at h_1
   try dsimp only at h_1
   rw[hb1];cbv;refine AStep.mk (d8 hi1) ?_;cbv;refine AGet.mk _ (gg hg ht hi1 hz1) ?_;cbv
   cases hb2:(eq z1 0)
   ·rw[aa hb2] at h_1;cbv;subst h_1;try dsimp only[lr,lrL,lrp,aH] at h
    subst h;exact ARet.mk trivial hX.symm
   rw[ab hb2] at h_1;cbv;try rw[hg] at h_1
   try rw[ht] at h_1
   refine⟨⟨(k1+1,(wrap .i64 (add v1 1))),hc1_,hs1,h_1⟩,Wk.of [] rfl rfl ?_ ?_,aB hc1_⟩
   ·cbv;all_goals exact⟨⟨_,rfl,rfl⟩,⟨_,rfl,rfl⟩,⟨_,rfl,rfl⟩,trivial⟩
   cbv;all_goals exact trivial
  have hb1:lt v1 (llen (r_I64 a0))=false:=eX hg ht hi1 hc1_;rw[List.drop_of_length_le (Nat.le_of_not_lt hc1_)] at h_1;rw[f8] at h_1;try rw[←hg] at h_1
  try rw[←ht] at h_1
  try dsimp only at h_1
  rw[hb1];cbv;refine⟨(),Wk.of [] rfl rfl ?_ ?_,h_1.symm⟩
  ·cbv;all_goals exact trivial
  cbv;all_goals exact trivial
 rintro _ hy1;replace hy1:=hy1.symm;subst hy1;try dsimp only[lr,lrL,lrp,aH] at h
 cbv;subst h;exact ARet.mk trivial hX.symm
def ir96:J:=js [jm 4 (ki 0)] [0,1] (.seq (.block 0 (js [jm 6 0,jm 7 1,jb 8 .lss .i 6 7,jm 5 8] [0,1,5] (.cond 5 (js [jq 4 (.mv (.k (V.i (-1))))] [4] .ret) (js [jm 10 0,jm 11 1,jb 12 .gtr .i 10 11,jm 9 12] [9] (.cond 9 (js [jm 4 (ki 1)] [4] .ret) .skip))))) (js [jm 4 (ki 0)] [4] .ret))
def rv96:List RV:=[.t 4]
def dp (g:G) (t:TE) (a0:Int) (a1:Int):Int:=
 br (g.lt a0 a1)
 (
  (-1))
 (
  br (g.lt a1 a0)
  (
   1)
  (
   0))
theorem gI {g:G} {t:TE} {a0:Int} {a1:Int} {r:Int} (hg:g=G.real) (ht:t=TE.real) (h:dp g t a0 a1=r):Fn Tryz.prog 96 [.c (.v (.int .i64 a0)),.c (.v (.int .i64 a1))] (.c (.r (.v (.int .i64 r)))):=by
 obtain⟨X,hX⟩:=aJ (.c (.r (.v (.int .i64 r))):X);rw[←hX];refine aE (rvs:=rv96) (j:=ir96) Tryz.func96 rfl (by kernel_rfl) (nb rfl) (by kernel_rfl) ac ?_;intro g2 F hg2 hF;obtain rfl:g2=g:=hg2.unique.trans hg.symm;clear hg2;obtain⟨_,lt⟩:=g2;obtain⟨_⟩:=t
 unfold dp at h;try dsimp only at h
 cbv
 cases hb1:(lt a0 a1)
 rotate_left
 ·rw[ab hb1] at h;cbv;subst h;exact ARet.mk trivial hX.symm
 rw[aa hb1] at h;cbv
 cases hb2:(lt a1 a0)
 rotate_left
 ·rw[ab hb2] at h;cbv;subst h;exact ARet.mk trivial hX.symm
 rw[aa hb2] at h;cbv;subst h;exact ARet.mk trivial hX.symm
def ir81:J:=js [jq 2 (.box 0),jq 3 (.box 1),jm 4 (ki 0)] [2,3] (.seq (.reg (some [[],[0],[0,1],[],[3],[3,4],[0,1,2,3,4,5],[],[7],[7,8],[],[10],[10,11],[0,1,2,3,4,5,6,7,8,9,10,11,12],[],[14],[],[16],[0,1,2,3,4,5,6,7,8,9,10,11,12,13,14,15,16,17],[0,1,2,3,4,5,6,7,8,9,10,11,12,13,14,15,16,17,18],[0,1,2,3,4,5,6,7,8,9,10,11,12,13,14,15,16,17,18,19],[0,1,2,3,4,5,6,7,8,9,10,11,12,13,14,15,16,17,18,19,20]]) [jf 5 1 2,jf 6 1 5,jk 7 6,jf 8 1 3,jf 9 1 8,jk 10 9,jc 11 96 [7,10],jf 12 1 2,jf 13 0 12,jk 14 13,jf 15 1 3,jf 16 0 15,jk 17 16,jc 18 96 [14,17],jf 19 0 2,jk 20 19,jf 21 0 3,jk 22 21,jc 23 96 [20,22],jq 24 (.bsl 1 [11,18,23]),jc 25 95 [24],jm 4 25] [4]) .ret)
def rv81:List RV:=[.t 4]
def ba (g:G) (t:TE) (a0:Booking) (a1:Booking):Int:=
 lP (dp g t a0.Trip.Day a1.Trip.Day) fun x1=>
 lP (dp g t a0.Trip.Leg a1.Trip.Leg) fun x2=>
 lP (dp g t a0.Thing a1.Thing) fun x3=>
 lP ([x1,x2,x3]) fun(l1:List Int)=>
 lP (mO g t l1) fun x4=>
 x4
theorem gK {g:G} {t:TE} {a0:Booking} {a1:Booking} {r:Int} (hg:g=G.real) (ht:t=TE.real) (h:ba g t a0 a1=r):Fn Tryz.prog 81 [.g (Booking.rs t a0),.g (Booking.rs t a1)] (.c (.r (.v (.int .i64 r)))):=by
 obtain⟨X,hX⟩:=aJ (.c (.r (.v (.int .i64 r))):X);rw[←hX];refine aE (rvs:=rv81) (j:=ir81) Tryz.func81 rfl (by kernel_rfl) (nb rfl) (by kernel_rfl) ac ?_;intro g2 F hg2 hF;obtain rfl:g2=g:=hg2.unique.trans hg.symm;clear hg2;obtain⟨_,_,_,_,_,_,_,_,_,_,_,_,_,_,_,_,_,_,_,_,_,_,_,_,dlen,_,_,_,rd⟩:=g2;obtain⟨_,_,_,_,_,_,r_I64,d_I64⟩:=t
 obtain⟨a0_Thing,⟨a0_Trip_Leg,a0_Trip_Day⟩,a0_Weight⟩:=a0;obtain⟨a1_Thing,⟨a1_Trip_Leg,a1_Trip_Day⟩,a1_Weight⟩:=a1;unfold ba at h;try dsimp only at h
 cbv;obtain⟨x1,hx1,h⟩:=ag h;try dsimp only at h
 refine ACall.mk _ _ rfl (hF _ _ _ (gI hg ht hx1)) (.inl rfl) (nb rfl) ?_;cbv;obtain⟨x2,hx2,h⟩:=ag h;try dsimp only at h
 refine ACall.mk _ _ rfl (hF _ _ _ (gI hg ht hx2)) (.inl rfl) (nb rfl) ?_;cbv;obtain⟨x3,hx3,h⟩:=ag h;try dsimp only at h
 refine ACall.mk _ _ rfl (hF _ _ _ (gI hg ht hx3)) (.inl rfl) (nb rfl) ?_;cbv;obtain⟨l1,hl1,h⟩:=ag h;try dsimp only at h
 refine ANew.mk (d_I64 l1) (dlen (d_I64 l1)) (by rw[←hl1];exact dR hg ht [x1,x2,x3]) (by rw[←hl1];exact dj hg ht [x1,x2,x3]) ?_;cbv;refine AStep.mk (mN ht (am hg ht _)) ?_;cbv;obtain⟨x4,hx4,h⟩:=ag h;try dsimp only at h
 refine ACall.mk _ _ (by rw[show rd (d_I64 l1) 0 (dlen (d_I64 l1))=r_I64 l1 from ph hg ht (am hg ht _)];try rfl) (hF _ _ _ (yG hg ht hx4)) (.inr rfl) (nb rfl) ?_
 cbv;subst h;exact ARet.mk trivial hX.symm
def ir31:J:=js [jq 2 (.box 0),jm 4 kf] [1,2] (.seq (js [jl 7 3 2,jc 8 54 [7],jq 9 (.not 8),jm 10 9,jv 11 10 (.mv 1),jv 12 10 (.len false 11),jv 13 10 (.bin .gtr .i 12 (ki 120)),jq 14 (.pick 10 kt 13)] [1,2,14] (.cond 14 (js [jm 4 kf] [4] .ret) .skip)) (.seq (js [jm 15 1,jq 16 (.len false 15),jm 17 (ki 0)] [1,2,15,16,17] (.bl 0 (js [jb 18 .lss .i 17 16] [1,2,15,16,17,18] (.seq (.cond 18 .skip (.exit 0)) (.seq (.block 1 (js [jm 19 17,ja 20 4 15 17,jl 21 4 20,jq 6 (.alloc [.r (.v (.int .i64 0)),.r (.v (.int .i64 0)),.r (.v (.int .i64 0)),.r (.v (.int .i64 0))]),jm 5 19,jp (.st 4 6 21)] [1,2,5,6,15,16,17] (.seq (.reg (some [[],[0],[0,1],[0,1,2],[0,1,2],[0,1,2,4],[0,1,2,3,4,5],[0,1,2,3,4,5,6],[0,1,2],[0,1,2,3,4,5,6,7,8],[0,1,2,3,4,5,6,7,8,9],[0,1,2,3,4,5,6,7,8,9,10],[0,1,2,3,4,5,6,7,8,9,10,11],[0,1,2,3,4,5,6,7,8,9,10,11,12],[0,1,2,3,4,5,6,7,8,9,10,11,12],[0,1,2,3,4,5,6,7,8,9,10,11,12,14],[0,1,2,3,4,5,6,7,8,9,10,11,12,13,14,15],[0,1,2,3,4,5,6,7,8,9,10,11,12,13,14,15,16],[0,1,2,3,4,5,6,7,8,9,10,11,12,13,14,15,16,17],[0,1,2,3,4,5,6,7,8,9,10,11,12,13,14,15,16,17,18],[0,1,2,3,4,5,6,7,8,9,10,11,12,13,14,15,16,17,18,19],[0,1,2,3,4,5,6,7,8,9,10,11,12,13,14,15,16,17,18,19,20],[0,1,2,3,4,5,6,7,8,9,10,11,12,13,14,15,16,17,18,19,20,21],[0,1,2,3,4,5,6,7,8,9,10,11,12,13,14,15,16,17,18,19,20,21,22],[0,1,2,3,4,5,6,7,8,9,10,11,12,13,14,15,16,17,18,19,20,21,22,23],[0,1,2,3,4,5,6,7,8,9,10,11,12,13,14,15,16,17,18,19,20,21,22,23,24],[0,1,2,3,4,5,6,7,8,9,10,11,12,13,14,15,16,17,18,19,20,21,22,23,24,25],[0,1,2,3,4,5,6,7,8,9,10,11,12,13,14,15,16,17,18,19,20,21,22,23,24,25,26],[0,1,2,3,4,5,6,7,8,9,10,11,12,13,14,15,16,17,18,19,20,21,22,23,24,25,26,27],[0,1,2,3,4,5,6,7,8,9,10,11,12,13,14,15,16,17,18,19,20,21,22,23,24,25,26,27,28],[0,1,2,3,4,5,6,7,8,9,10,11,12,13,14,15,16,17,18,19,20,21,22,23,24,25,26,27,28,29],[0,1,2,3,4,5,6,7,8,9,10,11,12,13,14,15,16,17,18,19,20,21,22,23,24,25,26,27,28,29,30],[0,1,2,3,4,5,6,7,8,9,10,11,12,13,14,15,16,17,18,19,20,21,22,23,24,25,26,27,28,29,30,31],[0,1,2,3,4,5,6,7,8,9,10,11,12,13,14,15,16,17,18,19,20,21,22,23,24,25,26,27,28,29,30,31],[0,1,2,3,4,5,6,7,8,9,10,11,12,13,14,15,16,17,18,19,20,21,22,23,24,25,26,27,28,29,30,31,33],[0,1,2,3,4,5,6,7,8,9,10,11,12,13,14,15,16,17,18,19,20,21,22,23,24,25,26,27,28,29,30,31,32,33,34],[0,1,2,3,4,5,6,7,8,9,10,11,12,13,14,15,16,17,18,19,20,21,22,
 23,24,25,26,27,28,29,30,31],[0,1,2,3,4,5,6,7,8,9,10,11,12,13,14,15,16,17,18,19,20,21,22,23,24,25,26,27,28,29,30,31,36],[0,1,2,3,4,5,6,7,8,9,10,11,12,13,14,15,16,17,18,19,20,21,22,23,24,25,26,27,28,29,30,31],[0,1,2,3,4,5,6,7,8,9,10,11,12,13,14,15,16,17,18,19,20,21,22,23,24,25,26,27,28,29,30,31,38],[0,1,2,3,4,5,6,7,8,9,10,11,12,13,14,15,16,17,18,19,20,21,22,23,24,25,26,27,28,29,30,31,38,39],[0,1,2,3,4,5,6,7,8,9,10,11,12,13,14,15,16,17,18,19,20,21,22,23,24,25,26,27,28,29,30,31,36,37,38,39,40],[0,1,2,3,4,5,6,7,8,9,10,11,12,13,14,15,16,17,18,19,20,21,22,23,24,25,26,27,28,29,30,31,36,37,38,39,40,41],[0,1,2,3,4,5,6,7,8,9,10,11,12,13,14,15,16,17,18,19,20,21,22,23,24,25,26,27,28,29,30,31,36,37,38,39,40,41,42],[0,1,2,3,4,5,6,7,8,9,10,11,12,13,14,15,16,17,18,19,20,21,22,23,24,25,26,27,28,29,30,31,32,33,34,35,36,37,38,39,40,41,42,43],[0,1,2,3,4,5,6,7,8,9,10,11,12,13,14,15,16,17,18,19,20,21,22,23,24,25,26,27,28,29,30,31,32,33,34,35,36,37,38,39,40,41,42,43,44]]) [jm 22 5,jb 23 .gtr .i 22 (ki 0),jm 24 23,ju 25 24 (.mv 1),ju 26 24 (.mv 5),ju 27 24 (.bin .sub .i 26 (ki 1)),ju 28 24 (.ia 4 25 27),ju 29 24 (.ld true 4 28),ju 30 24 (.ld true 4 6),ju 31 24 (.call 81 true [29,30]),ju 32 24 (.bin .geq .i 31 (ki 0)),jq 33 (.pick 24 32 kf),jm 34 33,jv 35 34 (.ld true 3 2),jv 36 34 (.fa 1 6),jv 37 34 (.ld true 2 36),jv 38 34 (.call 76 true [35,37]),jv 39 34 (.not 38),jq 40 (.pick 34 kt 39),jm 41 40,jv 42 41 (.fa 0 6),jv 43 41 (.ld false 1 42),jv 44 41 (.call 87 true [43,(ki 1),(ki 9999)]),jv 45 41 (.not 44),jq 46 (.pick 41 kt 45),jm 47 46,jv 48 47 (.fa 3 6),jv 49 47 (.ld false 1 48),jv 50 47 (.call 87 true [49,(ki 1),(ki 1000000)]),jv 51 47 (.not 50),jq 52 (.pick 47 kt 51),jm 53 52,jv 54 53 (.mv 1),jv 55 53 (.fa 1 6),jv 56 53 (.ld true 2 55),jv 57 53 (.call 77 true [54,56]),jv 58 53 (.fa 0 2),jv 59 53 (.ld false 1 58),jv 60 53 (.fa 1 6),jv 61 53 (.fa 0 60),jv 62 53 (.ld false 1 61),jv 63 53 (.ia 6 59 62),jv 64 53 (.fa 5 63),jv 65 53 (.ld false 1 64),jv 66 53 (.bin .gtr .i 57 65),jq 67 (.pick 53 kt 66)] [1,2,15,16,17,67]) (.cond 67 (js [jm 4 kf] [4] .ret) .skip)))) (.reg none [jb 68 .add .i 17 (ki 1),jm 17 68] [1,2,15,16,17])))))) (js [jm 4 kt] [4] .ret)))
def rv31:List RV:=[.t 4]
def bj (g:G) (t:TE) (a0:Network) (a1:List Booking):List Booking→Int→Option (LR Bool Unit)
 |[],v1=>
  some (LR.out ())
 |z1::ls1,v1=>
  br (g.lt 0 v1)
  (
   gd (((0:Int)≤(g.wrap .i64 (g.sub v1 1))))<|
   gt a1 (g.nat (g.wrap .i64 (g.sub v1 1))) fun x2=>
   lP (ba g t (Booking.mk x2.Thing (Trip.mk x2.Trip.Leg x2.Trip.Day) x2.Weight) (Booking.mk z1.Thing (Trip.mk z1.Trip.Leg z1.Trip.Day) z1.Weight)) fun x3=>
   br (g.le 0 x3)
   (
    some (LR.ret false))
   (
    cl (fK g t a0 (Trip.mk z1.Trip.Leg z1.Trip.Day)) fun x4=>
    br x4
    (
     lP (cT g t z1.Thing 1 9999) fun x5=>
     br x5
     (
      lP (cT g t z1.Weight 1 1000000) fun x6=>
      br x6
      (
       lP (cA g t a1 (Trip.mk z1.Trip.Leg z1.Trip.Day)) fun x7=>
       gd (((0:Int)≤z1.Trip.Leg))<|
       gt a0.Legs (g.nat z1.Trip.Leg) fun x8=>
       br (g.lt x8.Room x7)
       (
        some (LR.ret false))
       (
        bj g t a0 a1 ls1 (g.wrap .i64 (g.add v1 1))))
      (
       some (LR.ret false)))
     (
      some (LR.ret false)))
    (
     some (LR.ret false))))
  (
   cl (fK g t a0 (Trip.mk z1.Trip.Leg z1.Trip.Day)) fun x9=>
   br x9
   (
    lP (cT g t z1.Thing 1 9999) fun x10=>
    br x10
    (
     lP (cT g t z1.Weight 1 1000000) fun x11=>
     br x11
     (
      lP (cA g t a1 (Trip.mk z1.Trip.Leg z1.Trip.Day)) fun x12=>
      gd (((0:Int)≤z1.Trip.Leg))<|
      gt a0.Legs (g.nat z1.Trip.Leg) fun x13=>
      br (g.lt x13.Room x12)
      (
       some (LR.ret false))
      (
       bj g t a0 a1 ls1 (g.wrap .i64 (g.add v1 1))))
     (
      some (LR.ret false)))
    (
     some (LR.ret false)))
   (
    some (LR.ret false)))
def bF (g:G) (t:TE) (a0:Network) (a1:List Booking):Option Bool:=
 cl (cE g t a0) fun x1=>
 br x1
 (
  br (g.lt 120 (g.llen (t.r_Booking a1)))
  (
   some false)
  (
   cl (bj g t a0 a1 a1 0) fun o1=>lr o1 fun y1=>
   some true))
 (
  some false)
theorem dY {g:G} {t:TE} {a0:Network} {a1:List Booking} {r:Bool} (hg:g=G.real) (ht:t=TE.real) (h:bF g t a0 a1=some r):Fn Tryz.prog 31 [.g (Network.rs t a0),.c (.s 4 (t.r_Booking a1))] (.c (.r (.v (.bool r)))):=by
 obtain⟨X,hX⟩:=aJ (.c (.r (.v (.bool r))):X);rw[←hX];refine aE (rvs:=rv31) (j:=ir31) Tryz.func31 rfl (by kernel_rfl) (nb rfl) (by kernel_rfl) ac ?_;intro g2 F hg2 hF;obtain rfl:g2=g:=hg2.unique.trans hg.symm;clear hg2;obtain⟨wrap,lt,le,_,_,_,_,_,_,_,_,_,_,add,_,_,_,_,_,_,_,llen⟩:=g2;obtain⟨_,_,_,_,r_Leg,_,r_I64,_,_,_,r_Booking⟩:=t
 obtain⟨a0_Legs,a0_Off,a0_Change⟩:=a0;unfold bF at h;try dsimp only at h
 cbv;obtain⟨x1,hx1,h⟩:=ae h;try dsimp only at h
 refine ACall.mk _ _ rfl (hF _ _ _ (eZ hg ht hx1)) (.inl rfl) (nb rfl) ?_;cbv
 cases hb1:x1
 ·rw[aa hb1] at h;cbv;iterate 3 try(rw[hb1];cbv)
  obtain rfl:=Option.some.inj h;exact ARet.mk trivial hX.symm
 rw[ab hb1] at h;cbv;iterate 3 try(rw[hb1];cbv)
 cases hb2:(lt 120 (llen (r_Booking a1)))
 rotate_left
 ·rw[ab hb2] at h;cbv;obtain rfl:=Option.some.inj h;exact ARet.mk trivial hX.symm
 rw[aa hb2] at h;cbv;obtain⟨o1,ho1,h⟩:=ae h;try dsimp only at h
 try rw[hg] at ho1
 try rw[ht] at ho1
 refine ABL.mk {p:Nat×Int//p.1≤a1.length∧p.2=((p.1:Nat):Int)∧bj G.real TE.real (Network.mk a0_Legs a0_Off a0_Change) a1 (List.drop p.1 a1) p.2=some o1} (fun⟨⟨k1,v1⟩,_⟩=>({sl:=[(1,.c (.r (.s 4 (r_Booking a1)))),(2,.c (.p 0 3 0 0)),(15,.c (.r (.s 4 (r_Booking a1)))),(16,.c (.r (.v (.int .i64 (llen (r_Booking a1)))))),(17,.c (.r (.v (.int .i64 v1))))],tab:=[(0,some (.foc 3 [] [.r (.s 6 (r_Leg a0_Legs)),.r (.s 1 (r_I64 a0_Off)),.r (.v (.int .i64 a0_Change))] []))]}:St)) 1 (fun p=>a1.length-p.1.1) ⟨(0,0),Nat.zero_le _,rfl,ho1⟩ (Unit) (fun _=>({sl:=[],tab:=[]}:St)) 0 (fun y=>o1=LR.out y) ?_ ?_ ?_
 ·refine Wk.of [(0,some 0)] rfl rfl ?_ ?_
  ·cbv;all_goals exact⟨⟨_,rfl,rfl⟩,⟨_,rfl,rfl⟩,⟨_,rfl,rfl⟩,⟨_,rfl,rfl⟩,⟨_,rfl,rfl⟩,trivial⟩
  cbv;all_goals exact⟨⟨_,rfl,_,rfl,rfl,rfl,rfl,trivial⟩,trivial⟩
 ·rintro⟨⟨k1,v1⟩,hk1,hi1,h_1⟩ hq1;have hm1:=(hq1.1 1 _ _ rfl);try dsimp only at hk1 hi1 h_1
  clear hq1;cbv
  by_cases hc1_:k1<a1.length
  ·have hb3:lt v1 (llen (r_Booking a1))=true:=bU hg ht hi1 hc1_;have hs1:=dt hg ht hi1 hc1_ hm1;obtain⟨z1,hz1⟩:=av hc1_;rw[aq hz1] at h_1;rw[bj] at h_1;obtain⟨z1_Thing,⟨z1_Trip_Leg,z1_Trip_Day⟩,z1_Weight⟩:=z1;try rw[←hg] at h_1
   try rw[←ht] at h_1
   try dsimp only at h_1
   rw[hb3];cbv;refine AStep.mk (d8 hi1) ?_;cbv;refine AGet.mk _ (bL hg ht hi1 hz1) ?_;cbv
   cases hb4:(lt 0 v1)
   ·rw[aa hb4] at h_1;cbv;iterate 8 try(rw[hb4];cbv)
    obtain⟨x9,hx9,h_1⟩:=ae h_1;try dsimp only at h_1
    refine ACall.mk _ _ rfl (hF _ _ _ (ic hg ht hx9)) (.inl rfl) (nb rfl) ?_;cbv
    cases hb10:x9
    ·rw[aa hb10] at h_1;cbv;iterate 4 try(rw[hb10];cbv)
     obtain rfl:=Option.some.inj h_1;try dsimp only[lr,lrL,lrp,aH] at h
     obtain rfl:=Option.some.inj h;exact ARet.mk trivial hX.symm
    rw[ab hb10] at h_1;cbv;iterate 2 try(rw[hb10];cbv)
    obtain⟨x10,hx10,h_1⟩:=ag h_1;try dsimp only at h_1
    refine ACall.mk _ _ rfl (hF _ _ _ (cQ hg ht hx10)) (.inl rfl) (nb rfl) ?_;cbv;iterate 2 try(rw[hb10];cbv)
    cases hb11:x10
    ·rw[aa hb11] at h_1;cbv;iterate 4 try(rw[hb11];cbv)
     obtain rfl:=Option.some.inj h_1;try dsimp only[lr,lrL,lrp,aH] at h
     obtain rfl:=Option.some.inj h;exact ARet.mk trivial hX.symm
    rw[ab hb11] at h_1;cbv;iterate 2 try(rw[hb11];cbv)
    obtain⟨x11,hx11,h_1⟩:=ag h_1;try dsimp only at h_1
    refine ACall.mk _ _ rfl (hF _ _ _ (cQ hg ht hx11)) (.inl rfl) (nb rfl) ?_;cbv;iterate 2 try(rw[hb11];cbv)
    cases hb12:x11
    ·rw[aa hb12] at h_1;cbv;iterate 13 try(rw[hb12];cbv)
     obtain rfl:=Option.some.inj h_1;try dsimp only[lr,lrL,lrp,aH] at h
     obtain rfl:=Option.some.inj h;exact ARet.mk trivial hX.symm
    rw[ab hb12] at h_1;cbv;iterate 3 try(rw[hb12];cbv)
    obtain⟨x12,hx12,h_1⟩:=ag h_1;try dsimp only at h_1
    refine ACall.mk _ _ rfl (hF _ _ _ (jJ hg ht hx12)) (.inl rfl) (nb rfl) ?_;cbv;iterate 6 try(rw[hb12];cbv)
    obtain⟨hc3,h_1⟩:=ak h_1;refine AStep.mk hc3 ?_;cbv;obtain⟨x13,hx13,h_1⟩:=aV h_1;obtain⟨x13_From,x13_To,x13_Start,x13_Takes,x13_Days,x13_Room⟩:=x13;try dsimp only at h_1
    refine AGet.mk _ (bg hg ht hx13) ?_;cbv;iterate 4 try(rw[hb12];cbv)
    cases hb13:(lt x13_Room x12)
    rotate_left
    ·rw[ab hb13] at h_1;cbv;obtain rfl:=Option.some.inj h_1;try dsimp only[lr,lrL,lrp,aH] at h
     obtain rfl:=Option.some.inj h;exact ARet.mk trivial hX.symm
    rw[aa hb13] at h_1;cbv;try rw[hg] at h_1
    try rw[ht] at h_1
    refine⟨⟨(k1+1,(wrap .i64 (add v1 1))),hc1_,hs1,h_1⟩,Wk.of [(0,some 0)] rfl rfl ?_ ?_,aB hc1_⟩
    ·cbv;all_goals exact⟨⟨_,rfl,rfl⟩,⟨_,rfl,rfl⟩,⟨_,rfl,rfl⟩,⟨_,rfl,rfl⟩,⟨_,rfl,rfl⟩,trivial⟩
    cbv;all_goals exact⟨⟨_,rfl,_,rfl,rfl,rfl,rfl,trivial⟩,trivial⟩
   rw[ab hb4] at h_1;cbv;iterate 3 try(rw[hb4];cbv)
   obtain⟨hc1,h_1⟩:=ak h_1;refine AStep.mk hc1 ?_;cbv;obtain⟨x2,hx2,h_1⟩:=aV h_1;obtain⟨x2_Thing,⟨x2_Trip_Leg,x2_Trip_Day⟩,x2_Weight⟩:=x2;try dsimp only at h_1
   refine AGet.mk _ (e7 hg ht hx2) ?_;cbv;iterate 3 try(rw[hb4];cbv)
   obtain⟨x3,hx3,h_1⟩:=ag h_1;try dsimp only at h_1
   refine ACall.mk _ _ rfl (hF _ _ _ (gK hg ht hx3)) (.inl rfl) (nb rfl) ?_;cbv;iterate 2 try(rw[hb4];cbv)
   cases hb5:(le 0 x3)
   rotate_left
   ·rw[ab hb5] at h_1;cbv;iterate 5 try(rw[hb5];cbv)
    obtain rfl:=Option.some.inj h_1;try dsimp only[lr,lrL,lrp,aH] at h
    obtain rfl:=Option.some.inj h;exact ARet.mk trivial hX.symm
   rw[aa hb5] at h_1;cbv;iterate 3 try(rw[hb5];cbv)
   obtain⟨x4,hx4,h_1⟩:=ae h_1;try dsimp only at h_1
   refine ACall.mk _ _ rfl (hF _ _ _ (ic hg ht hx4)) (.inl rfl) (nb rfl) ?_;cbv;iterate 2 try(rw[hb5];cbv)
   cases hb6:x4
   ·rw[aa hb6] at h_1;cbv;iterate 4 try(rw[hb6];cbv)
    obtain rfl:=Option.some.inj h_1;try dsimp only[lr,lrL,lrp,aH] at h
    obtain rfl:=Option.some.inj h;exact ARet.mk trivial hX.symm
   rw[ab hb6] at h_1;cbv;iterate 2 try(rw[hb6];cbv)
   obtain⟨x5,hx5,h_1⟩:=ag h_1;try dsimp only at h_1
   refine ACall.mk _ _ rfl (hF _ _ _ (cQ hg ht hx5)) (.inl rfl) (nb rfl) ?_;cbv;iterate 2 try(rw[hb6];cbv)
   cases hb7:x5
   ·rw[aa hb7] at h_1;cbv;iterate 4 try(rw[hb7];cbv)
    obtain rfl:=Option.some.inj h_1;try dsimp only[lr,lrL,lrp,aH] at h
    obtain rfl:=Option.some.inj h;exact ARet.mk trivial hX.symm
   rw[ab hb7] at h_1;cbv;iterate 2 try(rw[hb7];cbv)
   obtain⟨x6,hx6,h_1⟩:=ag h_1;try dsimp only at h_1
   refine ACall.mk _ _ rfl (hF _ _ _ (cQ hg ht hx6)) (.inl rfl) (nb rfl) ?_;cbv;iterate 2 try(rw[hb7];cbv)
   cases hb8:x6
   ·rw[aa hb8] at h_1;cbv;iterate 13 try(rw[hb8];cbv)
    obtain rfl:=Option.some.inj h_1;try dsimp only[lr,lrL,lrp,aH] at h
    obtain rfl:=Option.some.inj h;exact ARet.mk trivial hX.symm
   rw[ab hb8] at h_1;cbv;iterate 3 try(rw[hb8];cbv)
   obtain⟨x7,hx7,h_1⟩:=ag h_1;try dsimp only at h_1
   refine ACall.mk _ _ rfl (hF _ _ _ (jJ hg ht hx7)) (.inl rfl) (nb rfl) ?_;cbv;iterate 6 try(rw[hb8];cbv)
   obtain⟨hc2,h_1⟩:=ak h_1;refine AStep.mk hc2 ?_;cbv;obtain⟨x8,hx8,h_1⟩:=aV h_1;obtain⟨x8_From,x8_To,x8_Start,x8_Takes,x8_Days,x8_Room⟩:=x8;try dsimp only at h_1
   refine AGet.mk _ (bg hg ht hx8) ?_;cbv;iterate 4 try(rw[hb8];cbv)
   cases hb9:(lt x8_Room x7)
   rotate_left
   ·rw[ab hb9] at h_1;cbv;obtain rfl:=Option.some.inj h_1;try dsimp only[lr,lrL,lrp,aH] at h
    obtain rfl:=Option.some.inj h;exact ARet.mk trivial hX.symm
   rw[aa hb9] at h_1;cbv;try rw[hg] at h_1
   try rw[ht] at h_1
   refine⟨⟨(k1+1,(wrap .i64 (add v1 1))),hc1_,hs1,h_1⟩,Wk.of [(0,some 0)] rfl rfl ?_ ?_,aB hc1_⟩
   ·cbv;all_goals exact⟨⟨_,rfl,rfl⟩,⟨_,rfl,rfl⟩,⟨_,rfl,rfl⟩,⟨_,rfl,rfl⟩,⟨_,rfl,rfl⟩,trivial⟩
   cbv;all_goals exact⟨⟨_,rfl,_,rfl,rfl,rfl,rfl,trivial⟩,trivial⟩
  have hb3:lt v1 (llen (r_Booking a1))=false:=bM hg ht hi1 hc1_;rw[List.drop_of_length_le (Nat.le_of_not_lt hc1_)] at h_1;rw[bj] at h_1;try rw[←hg] at h_1
  try rw[←ht] at h_1
  try dsimp only at h_1
  rw[hb3];cbv;refine⟨(),Wk.of [] rfl rfl ?_ ?_,(Option.some.inj h_1).symm⟩
  ·cbv;all_goals exact trivial
  cbv;all_goals exact trivial
 rintro _ hy1;replace hy1:=hy1.symm;subst hy1;try dsimp only[lr,lrL,lrp,aH] at h
 cbv;obtain rfl:=Option.some.inj h;exact ARet.mk trivial hX.symm
end Go.Vs
namespace Go.Proofs
open Go.RowKit Go.Sort
set_option maxHeartbeats 2000000
set_option maxRecDepth 100000
def Tryz.lays192_ren : Go.Shelf.Ren := ⟨fun | 192 => 136 | 190 => 172 | 125 => 181 | 258 => 180 | 128 => 193 | 129 => 194 | 302 => 184 | 303 => 185 | 304 => 186 | 305 => 187 | 306 => 188 | 307 => 189 | 308 => 190 | 309 => 191 | 310 => 192 | 333 => 195 | 329 => 196 | 330 => 197 | 334 => 198 | 335 => 199 | 336 => 200 | 344 => 201 | n => n, fun | 31 => 66 | 0 => 0 | 9 => 9 | 3 => 3 | 46 => 170 | 51 => 185 | 53 => 187 | 4 => 4 | 183 => 177 | 182 => 176 | 131 => 182 | 5 => 5 | 218 => 188 | 222 => 192 | 228 => 194 | 229 => 195 | n => n, fun | n => n⟩
theorem Tryz.lays192 : Go.Proofs.Lays.n192 Tryz.prog Tryz.lays192_ren := {
  mixed := by kernel_rfl
  f125 := Tryz.func181.trans (congrArg some (by kernel_rfl))
  f128 := Tryz.func193.trans (congrArg some (by kernel_rfl))
  f129 := Tryz.func194.trans (congrArg some (by kernel_rfl))
  f190 := Tryz.func172.trans (congrArg some (by kernel_rfl))
  f192 := Tryz.func136.trans (congrArg some (by kernel_rfl))
  f258 := Tryz.func180.trans (congrArg some (by kernel_rfl))
  f302 := Tryz.func184.trans (congrArg some (by kernel_rfl))
  f303 := Tryz.func185.trans (congrArg some (by kernel_rfl))
  f304 := Tryz.func186.trans (congrArg some (by kernel_rfl))
  f305 := Tryz.func187.trans (congrArg some (by kernel_rfl))
  f306 := Tryz.func188.trans (congrArg some (by kernel_rfl))
  f307 := Tryz.func189.trans (congrArg some (by kernel_rfl))
  f308 := Tryz.func190.trans (congrArg some (by kernel_rfl))
  f309 := Tryz.func191.trans (congrArg some (by kernel_rfl))
  f310 := Tryz.func192.trans (congrArg some (by kernel_rfl))
  f329 := Tryz.func196.trans (congrArg some (by kernel_rfl))
  f330 := Tryz.func197.trans (congrArg some (by kernel_rfl))
  f333 := Tryz.func195.trans (congrArg some (by kernel_rfl))
  f334 := Tryz.func198.trans (congrArg some (by kernel_rfl))
  f335 := Tryz.func199.trans (congrArg some (by kernel_rfl))
  f336 := Tryz.func200.trans (congrArg some (by kernel_rfl))
  f344 := Tryz.func201.trans (congrArg some (by kernel_rfl))
  t0 := Tryz.underlying0
  a0 := Tryz.isAgg0
  z0 := Tryz.sizeOf0
  v0 := Tryz.zeroValue0
  t3 := Tryz.underlying3
  a3 := Tryz.isAgg3
  z3 := Tryz.sizeOf3
  v3 := Tryz.zeroValue3
  t4 := Tryz.underlying4
  a4 := Tryz.isAgg4
  z4 := Tryz.sizeOf4
  v4 := Tryz.zeroValue4
  t5 := Tryz.underlying5
  a5 := Tryz.isAgg5
  z5 := Tryz.sizeOf5
  v5 := Tryz.zeroValue5
  t9 := Tryz.underlying9
  a9 := Tryz.isAgg9
  z9 := Tryz.sizeOf9
  v9 := Tryz.zeroValue9
  t31 := Tryz.underlying66
  a31 := Tryz.isAgg66
  z31 := Tryz.sizeOf66
  v31 := Tryz.zeroValue66
  t46 := Tryz.underlying170
  a46 := Tryz.isAgg170
  z46 := Tryz.sizeOf170
  v46 := Tryz.zeroValue170
  t51 := Tryz.underlying185
  a51 := Tryz.isAgg185
  z51 := Tryz.sizeOf185
  v51 := Tryz.zeroValue185
  t53 := Tryz.underlying187
  a53 := Tryz.isAgg187
  z53 := Tryz.sizeOf187
  v53 := Tryz.zeroValue187
  t131 := Tryz.underlying182
  a131 := Tryz.isAgg182
  z131 := Tryz.sizeOf182
  v131 := Tryz.zeroValue182
  t182 := Tryz.underlying176
  a182 := Tryz.isAgg176
  z182 := Tryz.sizeOf176
  v182 := Tryz.zeroValue176
  t183 := Tryz.underlying177
  a183 := Tryz.isAgg177
  z183 := Tryz.sizeOf177
  v183 := Tryz.zeroValue177
  t218 := Tryz.underlying188
  a218 := Tryz.isAgg188
  z218 := Tryz.sizeOf188
  v218 := Tryz.zeroValue188
  t222 := Tryz.underlying192
  a222 := Tryz.isAgg192
  z222 := Tryz.sizeOf192
  v222 := Tryz.zeroValue192
  t228 := Tryz.underlying194
  a228 := Tryz.isAgg194
  z228 := Tryz.sizeOf194
  v228 := Tryz.zeroValue194
  t229 := Tryz.underlying195
  a229 := Tryz.isAgg195
  z229 := Tryz.sizeOf195
  v229 := Tryz.zeroValue195 }
theorem Tryz.insS_nil (p:Option Addr) (cap:Nat) (w:World):
 Calls Tryz.prog 184 #[.slice p 0 cap,.int .i64 0,.int .i64 0] w fun e w'=>e=.returned (.tuple #[])∧w'=w:=by
 go_enter Tryz.func184,Tryz.ntmps184
 go_wp2
 refine wp_loop_rounds 1 ?_
 rw[rounds_succ]
 go_wp2
 go_end0
 exact⟨rfl,rfl⟩
theorem Tryz.pdqS_nil (p:Option Addr) (cap:Nat) (w:World):
 Calls Tryz.prog 180 #[.slice p 0 cap,.int .i64 0,.int .i64 0,.int .i64 0] w fun e w'=>e=.returned (.tuple #[])∧w'=w:=by
 go_enter Tryz.func180,Tryz.ntmps180
 go_wp2
 refine wp_loop_rounds 1 ?_
 rw[rounds_succ]
 go_wp2_with (first|(go_at_call 184;refine(Tryz.insS_nil p cap _).mono ?_;rintro e w' ⟨rfl,rfl⟩))
 refine bodyPost_ret (results_none rfl _ _ _) rfl ?_
 exact⟨rfl,rfl⟩
theorem Tryz.sortS_nil (p:Option Addr) (cap:Nat) (w:World):
 Calls Tryz.prog 172 #[.slice p 0 cap] w fun e w'=>e=.returned (.tuple #[])∧w'=w:=by
 have hLen:∀w,Calls Tryz.prog 181 #[.int .u64 0] w fun e w'=>e=.returned (.int .i64 0)∧w'=w:=fun w=>calls_of_every_depth fun D=>AnyS.bits_LenInS {Tryz.lays192 with} D 0 w (by omega) (by omega)
 go_enter Tryz.func172,Tryz.ntmps172
 go_wp2_with (first
  |(go_at_call 181;refine(hLen _).mono ?_;rintro e w' ⟨rfl,rfl⟩)
  |(go_at_call 180;refine(Tryz.pdqS_nil p cap _).mono ?_;rintro e w' ⟨rfl,rfl⟩))
 go_end0
 exact⟨rfl,rfl⟩
theorem Tryz.strs_nil (p:Option Addr) (cap:Nat) (w:World):
 Calls Tryz.prog 136 #[.slice p 0 cap] w fun e w'=>e=.returned (.tuple #[])∧w'=w:=by
 go_enter Tryz.func136,Tryz.ntmps136
 go_wp2_with (first|(go_at_call 172;refine(Tryz.sortS_nil p cap _).mono ?_;rintro e w' ⟨rfl,rfl⟩))
 go_end0
 exact⟨rfl,rfl⟩
end Go.Proofs
namespace Go.Vs
open Go.Proofs Go.RowKit
set_option linter.unusedVariables false
def hC (g:G) (t:TE) (a0:List ByteArray):Option (List ByteArray):=gd (a0.length<4611686018427387904)<|some (lE a0)
theorem nV {g:G} {t:TE} {a0 r:List ByteArray} (hg:g=G.real) (ht:t=TE.real) (h:hC g t a0=some r):FnM Tryz.prog 136 (.m (.o 1 (t.d_S a0))) [] (.u []) (.m (.o 1 (t.d_S r))):=by
 obtain⟨hl,h⟩:=ak h;cases h
 subst ht;exact yO a0 hl (fun blk cap w hH hb=>calls_of_every_depth fun D=>AnyS.sort_Strings_in Tryz.lays192 D blk 0 cap (a0.map bOf) w hH hb (by simpa using hl)) (fun e w=>Tryz.strs_nil none 0 w)
set_option maxRecDepth 100000
def ir82:J:=js [jq 1 (.box 0),jq 2 (.mv (.k (.c (.n 1))))] [1] (js [jq 9 (.mkm true),jm 3 9] [1,3] (js [jq 10 (.bsl 1 []),jm 4 10] [1,3,4] (.seq (js [jf 11 0 1,jk 12 11,jq 13 (.len false 12),jm 14 (ki 0)] [3,4,12,13,14] (.bl 0 (js [jb 15 .lss .i 14 13] [3,4,12,13,14,15] (.seq (.cond 15 .skip (.exit 0)) (.seq (.block 1 (js [ja 16 6 12 14,jl 17 6 16,jq 6 (.alloc [.r (.v (.string .empty)),.r (.v (.string .empty)),.r (.v (.int .i64 0)),.r (.v (.int .i64 0)),.r (.v (.int .i64 0)),.r (.v (.int .i64 0))]),jp (.st 6 6 17)] [3,4,6,12,13,14] (js [jf 18 0 6,jk 19 18,jf 20 1 6,jk 21 20,jq 22 (.bsl 1 [19,21]),jq 23 (.len false 22),jm 24 (ki 0)] [3,4,12,13,14,22,23,24] (.bl 2 (js [jb 25 .lss .i 24 23] [3,4,12,13,14,22,23,24,25] (.seq (.cond 25 .skip (.exit 2)) (.seq (.block 3 (js [ja 26 1 22 24,jk 27 26,jm 8 27] [3,4,8,12,13,14,22,23,24] (js [jm 28 3,jm 29 8,jq 30 (.mlk true 28 29),jq 31 (.not 30)] [3,4,8,12,13,14,22,23,24,31] (.cond 31 (js [jm 32 3,jm 33 8,jp (.mup true 32 33)] [3,4,8,12,13,14,22,23,24] (.reg none [jm 34 4,jm 35 8,jq 36 (.bsl 1 [35]),jq 37 (.app 1 16 true 34 36),jm 4 37] [3,4,12,13,14,22,23,24])) .skip)))) (.reg none [jb 38 .add .i 24 (ki 1),jm 24 38] [3,4,12,13,14,22,23,24])))))))) (.reg none [jb 39 .add .i 14 (ki 1),jm 14 39] [3,4,12,13,14])))))) (js [jm 40 4,jq 41 (.callm 136 true 40 [])] [4] (js [jm 42 4,jm 2 42] [2] .ret)))))
def rv82:List RV:=[.t 2]
open Go.Proofs Go.IntWalk
set_option maxHeartbeats 4000000
def bW (g:G) (t:TE) (l2:List ByteArray):Nat→Int→List ByteArray→List ByteArray→Option ((List ByteArray)×List ByteArray)
 |0,v2,w3,w4=>
  some (w3,w4)
 |n2+1,v2,w3,w4=>
  gt l2 (g.nat v2) fun x1=>
  br (g.hasS w3 x1)
  (
   bW g t l2 n2 (g.wrap .i64 (g.add v2 1)) w3 w4)
  (
   lP ([x1]) fun(l3:List ByteArray)=>
   gd (((w4.length+l3.length)*16≤70368744177664))<|
   lP (w4++l3) fun(l4:List ByteArray)=>
   bW g t l2 n2 (g.wrap .i64 (g.add v2 1)) (g.putS w3 x1) l4)
def cI (g:G) (t:TE):List Leg→List ByteArray→List ByteArray→Option (List ByteArray)
 |[],w1,w2=>
  some w2
 |z1::ls1,w1,w2=>
  lP ([z1.From,z1.To]) fun(l2:List ByteArray)=>
  gd (((g.int (g.dlen (t.d_S l2)))≤9223372036854775807))<|
  cl (bW g t l2 (aW 0 (g.int (g.dlen (t.d_S l2)))) 0 w1 w2) fun y1=>
  cI g t ls1 y1.1 y1.2
def ek (g:G) (t:TE) (a0:Network):Option (List ByteArray):=
 lP ([]) fun(l1:List ByteArray)=>
 cl (cI g t a0.Legs [] l1) fun y2=>
 cl (hC g t y2) fun x2=>
 gd ((x2.length=y2.length))<|
 some x2
theorem gP {g:G} {t:TE} {a0:Network} {r:List ByteArray} (hg:g=G.real) (ht:t=TE.real) (h:ek g t a0=some r):Fn Tryz.prog 82 [.g (Network.rs t a0)] (.c (.o 1 (t.d_S r))):=by
 obtain⟨X,hX⟩:=aJ (.c (.o 1 (t.d_S r)):X);rw[←hX];refine aE (rvs:=rv82) (j:=ir82) Tryz.func82 rfl (by kernel_rfl) (nb rfl) (by kernel_rfl) ac ?_;intro g2 F hg2 hF;obtain rfl:g2=g:=hg2.unique.trans hg.symm;clear hg2;obtain⟨wrap,lt,_,_,_,_,_,_,_,_,_,_,int,add,_,_,_,_,_,_,_,llen,_,_,dlen,_,_,_,_,_,_,_,_,_,_,_,_,_,hasS,putS⟩:=g2;obtain⟨_,_,_,_,r_Leg,_,_,_,_,_,_,_,_,d_S⟩:=t
 obtain⟨a0_Legs,a0_Off,a0_Change⟩:=a0;unfold ek at h;try dsimp only at h
 cbv;obtain⟨l1,hl1,h⟩:=ag h;try dsimp only at h
 refine ANew.mk (d_S l1) (dlen (d_S l1)) (by rw[←hl1];exact i7 hg ht []) (by rw[←hl1];exact gG hg ht []) ?_;cbv;obtain⟨o1,ho1,h⟩:=ae h;try dsimp only at h
 try rw[hg] at ho1
 try rw[ht] at ho1
 refine ABL.mk {p:Nat×Int×(List ByteArray)×List ByteArray//p.1≤a0_Legs.length∧p.2.1=((p.1:Nat):Int)∧cI G.real TE.real (List.drop p.1 a0_Legs) p.2.2.1 p.2.2.2=some o1} (fun⟨⟨k1,v1,w1,w2⟩,_⟩=>({sl:=[(3,.c (.m 0)),(4,.c (.f 1 1 0 (dlen (d_S w2)))),(12,.c (.r (.s 6 (r_Leg a0_Legs)))),(13,.c (.r (.v (.int .i64 (llen (r_Leg a0_Legs)))))),(14,.c (.r (.v (.int .i64 v1))))],tab:=[(0,some (.ms w1)),(1,some (.arr 1 (d_S w2)))]}:St)) 2 (fun p=>a0_Legs.length-p.1.1) ⟨(0,0,[],l1),Nat.zero_le _,rfl,ho1⟩ (List ByteArray) (fun y2=>({sl:=[(4,.c (.f 0 1 0 (dlen (d_S y2))))],tab:=[(0,some (.arr 1 (d_S y2)))]}:St)) 1 (fun y=>o1=y) ?_ ?_ ?_
 ·refine Wk.of [(0,some 32),(1,some 64)] rfl rfl ?_ ?_
  ·cbv;all_goals exact⟨⟨_,rfl,rfl⟩,⟨_,rfl,rfl⟩,⟨_,rfl,rfl⟩,⟨_,rfl,rfl⟩,⟨_,rfl,rfl⟩,trivial⟩
  cbv;all_goals exact⟨⟨_,rfl,rfl⟩,⟨_,rfl,rfl⟩,trivial⟩
 ·rintro⟨⟨k1,v1,w1,w2⟩,hk1,hi1,h_1⟩ hq1;have hm1:=(hq1.1 12 _ _ rfl);try dsimp only at hk1 hi1 h_1
  clear hq1;cbv
  by_cases hc1_:k1<a0_Legs.length
  ·have hb1:lt v1 (llen (r_Leg a0_Legs))=true:=dW hg ht hi1 hc1_;have hs1:=gk hg ht hi1 hc1_ hm1;obtain⟨z1,hz1⟩:=av hc1_;rw[aq hz1] at h_1;rw[cI] at h_1;obtain⟨z1_From,z1_To,z1_Start,z1_Takes,z1_Days,z1_Room⟩:=z1;try rw[←hg] at h_1
   try rw[←ht] at h_1
   try dsimp only at h_1
   rw[hb1];cbv;refine AStep.mk (d8 hi1) ?_;cbv;refine AGet.mk _ (dU hg ht hi1 hz1) ?_;cbv;obtain⟨l2,hl2,h_1⟩:=ag h_1;try dsimp only at h_1
   refine ANew.mk (d_S l2) (dlen (d_S l2)) (by rw[←hl2];exact i7 hg ht [z1_From,z1_To]) (by rw[←hl2];exact gG hg ht [z1_From,z1_To]) ?_;cbv;obtain⟨hB2,h_1⟩:=ak h_1;obtain⟨o2,ho2,h_1⟩:=ae h_1;try dsimp only at h_1
   try rw[hg] at ho2
   try rw[ht] at ho2
   refine ABL.mk {p:Nat×Int×(List ByteArray)×List ByteArray//p.1=aW p.2.1 (int (dlen (d_S l2)))∧0≤p.2.1∧bW G.real TE.real l2 p.1 p.2.1 p.2.2.1 p.2.2.2=some o2} (fun⟨⟨n2,v2,w3,w4⟩,_⟩=>({sl:=[(3,.c (.m 0)),(4,.c (.f 1 1 0 (dlen (d_S w4)))),(12,.c (.r (.s 6 (r_Leg a0_Legs)))),(13,.c (.r (.v (.int .i64 (llen (r_Leg a0_Legs)))))),(14,.c (.r (.v (.int .i64 v1)))),(22,.c (.f 2 1 0 (dlen (d_S l2)))),(23,.c (.r (.v (.int .i64 (int (dlen (d_S l2))))))),(24,.c (.r (.v (.int .i64 v2))))],tab:=[(0,some (.ms w3)),(1,some (.arr 1 (d_S w4))),(2,some (.arr 1 (d_S l2)))]}:St)) 3 (fun p=>p.1.1) ⟨(aW 0 (int (dlen (d_S l2))),0,w1,w2),rfl,Int.le_refl _,ho2⟩ ((List ByteArray)×List ByteArray) (fun⟨y1_1,y1_2⟩=>({sl:=[(3,.c (.m 0)),(4,.c (.f 1 1 0 (dlen (d_S y1_2)))),(12,.c (.r (.s 6 (r_Leg a0_Legs)))),(13,.c (.r (.v (.int .i64 (llen (r_Leg a0_Legs)))))),(14,.c (.r (.v (.int .i64 v1))))],tab:=[(0,some (.ms y1_1)),(1,some (.arr 1 (d_S y1_2)))]}:St)) 2 (fun y=>o2=y) ?_ ?_ ?_
   ·refine Wk.of [(0,some 0),(1,some 1),(2,some 146)] rfl rfl ?_ ?_
    ·cbv;all_goals exact⟨⟨_,rfl,rfl⟩,⟨_,rfl,rfl⟩,⟨_,rfl,rfl⟩,⟨_,rfl,rfl⟩,⟨_,rfl,rfl⟩,⟨_,rfl,rfl⟩,⟨_,rfl,rfl⟩,⟨_,rfl,rfl⟩,trivial⟩
    cbv;all_goals exact⟨⟨_,rfl,rfl⟩,⟨_,rfl,rfl⟩,⟨_,rfl,rfl⟩,trivial⟩
   ·rintro⟨⟨n2,v2,w3,w4⟩,hn2,hi2,h_2⟩ hq2;try dsimp only at hn2 hi2 h_2
    clear hq2;cbv;rcases n2 with _|n2
    ·have hb2:lt v2 (int (dlen (d_S l2)))=false:=eG hg hn2;rw[bW] at h_2;try rw[←hg] at h_2
     try rw[←ht] at h_2
     try dsimp only at h_2
     rw[hb2];cbv;refine⟨(w3,w4),Wk.of [(0,some 0),(1,some 1)] rfl rfl ?_ ?_,(Option.some.inj h_2).symm⟩
     ·cbv;all_goals exact⟨⟨_,rfl,rfl⟩,⟨_,rfl,rfl⟩,⟨_,rfl,rfl⟩,⟨_,rfl,rfl⟩,⟨_,rfl,rfl⟩,trivial⟩
     cbv;all_goals exact⟨⟨_,rfl,rfl⟩,⟨_,rfl,rfl⟩,trivial⟩
    have hb2:lt v2 (int (dlen (d_S l2)))=true:=fM hg hn2;have hl2:=jI hn2;have hs2:=gU hg hn2 hi2 hB2 (by decide);rw[bW] at h_2;try rw[←hg] at h_2
    try rw[←ht] at h_2
    try dsimp only at h_2
    rw[hb2];cbv;refine AStep.mk (vR hg hi2 hl2) ?_;cbv;obtain⟨x1,hx1,h_2⟩:=aV h_2;try dsimp only at h_2
    refine AGet.mk _ (lg hg ht hx1) ?_;cbv
    cases hb3:(hasS w3 x1)
    rotate_left
    ·rw[ab hb3] at h_2;cbv;try rw[hg] at h_2
     try rw[ht] at h_2
     refine⟨⟨(n2,(wrap .i64 (add v2 1)),w3,w4),hs2.1,hs2.2,h_2⟩,Wk.of [(0,some 0),(1,some 1),(2,some 2)] rfl rfl ?_ ?_,Nat.lt_succ_self _⟩
     ·cbv;all_goals exact⟨⟨_,rfl,rfl⟩,⟨_,rfl,rfl⟩,⟨_,rfl,rfl⟩,⟨_,rfl,rfl⟩,⟨_,rfl,rfl⟩,⟨_,rfl,rfl⟩,⟨_,rfl,rfl⟩,⟨_,rfl,rfl⟩,trivial⟩
     cbv;all_goals exact⟨⟨_,rfl,rfl⟩,⟨_,rfl,rfl⟩,⟨_,rfl,rfl⟩,trivial⟩
    rw[aa hb3] at h_2;cbv;obtain⟨l3,hl3,h_2⟩:=ag h_2;try dsimp only at h_2
    refine ANew.mk (d_S l3) (dlen (d_S l3)) (by rw[←hl3];exact i7 hg ht [x1]) (by rw[←hl3];exact gG hg ht [x1]) ?_;cbv;obtain⟨hc1,h_2⟩:=ak h_2;refine AStep.mk ⟨⟨rfl,(ap hg ht _)⟩,(dE hg ht (ap hg ht _) rfl hc1)⟩ ?_;cbv;obtain⟨l4,hl4,h_2⟩:=ag h_2;try dsimp only at h_2
    refine ANew.mk (d_S l4) (dlen (d_S l4)) (by rw[←hl4];exact iT hg ht (ap hg ht _) rfl) (by rw[←hl4];exact f6 hg ht (ap hg ht _) rfl) ?_;cbv;try rw[hg] at h_2
    try rw[ht] at h_2
    refine⟨⟨(n2,(wrap .i64 (add v2 1)),(putS w3 x1),l4),hs2.1,hs2.2,h_2⟩,Wk.of [(0,some 0),(1,some 227),(2,some 2)] rfl rfl ?_ ?_,Nat.lt_succ_self _⟩
    ·cbv;all_goals exact⟨⟨_,rfl,rfl⟩,⟨_,rfl,rfl⟩,⟨_,rfl,rfl⟩,⟨_,rfl,rfl⟩,⟨_,rfl,rfl⟩,⟨_,rfl,rfl⟩,⟨_,rfl,rfl⟩,⟨_,rfl,rfl⟩,trivial⟩
    cbv;all_goals exact⟨⟨_,rfl,rfl⟩,⟨_,rfl,rfl⟩,⟨_,rfl,rfl⟩,trivial⟩
   rintro⟨y1_1,y1_2⟩ hy2;replace hy2:=hy2.symm;subst hy2;try dsimp only[lr,lrL,lrp,aH] at h_1
   cbv;try rw[hg] at h_1
   try rw[ht] at h_1
   refine⟨⟨(k1+1,(wrap .i64 (add v1 1)),y1_1,y1_2),hc1_,hs1,h_1⟩,Wk.of [(0,some 0),(1,some 1)] rfl rfl ?_ ?_,aB hc1_⟩
   ·cbv;all_goals exact⟨⟨_,rfl,rfl⟩,⟨_,rfl,rfl⟩,⟨_,rfl,rfl⟩,⟨_,rfl,rfl⟩,⟨_,rfl,rfl⟩,trivial⟩
   cbv;all_goals exact⟨⟨_,rfl,rfl⟩,⟨_,rfl,rfl⟩,trivial⟩
  have hb1:lt v1 (llen (r_Leg a0_Legs))=false:=dn hg ht hi1 hc1_;rw[List.drop_of_length_le (Nat.le_of_not_lt hc1_)] at h_1;rw[cI] at h_1;try rw[←hg] at h_1
  try rw[←ht] at h_1
  try dsimp only at h_1
  rw[hb1];cbv;refine⟨w2,Wk.of [(0,some 1)] rfl rfl ?_ ?_,(Option.some.inj h_1).symm⟩
  ·cbv;all_goals exact⟨⟨_,rfl,rfl⟩,trivial⟩
  cbv;all_goals exact⟨⟨_,rfl,rfl⟩,trivial⟩
 rintro y2 hy1;replace hy1:=hy1.symm;subst hy1;try dsimp only[lr,lrL,lrp,aH] at h
 cbv;refine AStep.mk ⟨rfl,(ap hg ht _)⟩ ?_;cbv;obtain⟨x2,hx2,h⟩:=ae h;try dsimp only at h
 refine ACallM.mk _ _ _ _ rfl rfl (hF _ _ _ (nV hg ht hx2)) rfl (nb rfl) (nb rfl) ?_;cbv;obtain⟨hc2,h⟩:=ak h;obtain rfl:=Option.some.inj h;exact ARet.mk ⟨rfl,(DG ht (ap hg ht _) hc2)⟩ hX.symm
def ir84:J:=js [jm 4 (ki 0)] [0,1] (.seq (js [jm 7 0,jq 8 (.len false 7),jm 9 (ki 0)] [1,7,8,9] (.bl 0 (js [jb 10 .lss .i 9 8] [1,7,8,9,10] (.seq (.cond 10 .skip (.exit 0)) (.seq (.block 1 (js [jm 11 9,ja 12 1 7 9,jk 13 12,jm 5 11,jm 6 13] [1,5,6,7,8,9] (js [jm 14 6,jm 15 1,jb 16 .eql .s 14 15] [1,5,7,8,9,16] (.cond 16 (js [jm 17 5,jm 4 17] [4] .ret) .skip)))) (.reg none [jb 18 .add .i 9 (ki 1),jm 9 18] [1,7,8,9])))))) (js [jq 4 (.mv (.k (V.i (-1))))] [4] .ret))
def rv84:List RV:=[.t 4]
def bN (g:G) (t:TE) (a1:ByteArray):List ByteArray→Int→LR Int Unit
 |[],v1=>
  (LR.out ())
 |z1::ls1,v1=>
  br (g.seq z1 a1)
  (
   (LR.ret v1))
  (
   bN g t a1 ls1 (g.wrap .i64 (g.add v1 1)))
def co (g:G) (t:TE) (a0:List ByteArray) (a1:ByteArray):Int:=
 lP (bN g t a1 a0 0) fun o1=>lrp o1 fun y1=>
 (-1)
theorem c9 {g:G} {t:TE} {a0:List ByteArray} {a1:ByteArray} {r:Int} (hg:g=G.real) (ht:t=TE.real) (h:co g t a0 a1=r):Fn Tryz.prog 84 [.c (.s 1 (t.r_S a0)),.c (.v (.string a1))] (.c (.r (.v (.int .i64 r)))):=by
 obtain⟨X,hX⟩:=aJ (.c (.r (.v (.int .i64 r))):X);rw[←hX];refine aE (rvs:=rv84) (j:=ir84) Tryz.func84 rfl (by kernel_rfl) (nb rfl) (by kernel_rfl) ac ?_;intro g2 F hg2 hF;obtain rfl:g2=g:=hg2.unique.trans hg.symm;clear hg2;obtain⟨wrap,lt,_,_,_,_,_,_,_,_,_,_,_,add,_,_,_,seq,_,_,_,llen⟩:=g2;obtain⟨_,_,_,_,_,_,_,_,_,_,_,_,r_S⟩:=t
 unfold co at h;try dsimp only at h
 cbv;obtain⟨o1,ho1,h⟩:=ag h;try dsimp only at h
 try rw[hg] at ho1
 try rw[ht] at ho1
 refine ABL.mk {p:Nat×Int//p.1≤a0.length∧p.2=((p.1:Nat):Int)∧bN G.real TE.real a1 (List.drop p.1 a0) p.2=o1} (fun⟨⟨k1,v1⟩,_⟩=>({sl:=[(1,.c (.r (.v (.string a1)))),(7,.c (.r (.s 1 (r_S a0)))),(8,.c (.r (.v (.int .i64 (llen (r_S a0)))))),(9,.c (.r (.v (.int .i64 v1))))],tab:=[]}:St)) 0 (fun p=>a0.length-p.1.1) ⟨(0,0),Nat.zero_le _,rfl,ho1⟩ (Unit) (fun _=>({sl:=[],tab:=[]}:St)) 0 (fun y=>o1=LR.out y) ?_ ?_ ?_
 ·refine Wk.of [] rfl rfl ?_ ?_
  ·cbv;all_goals exact⟨⟨_,rfl,rfl⟩,⟨_,rfl,rfl⟩,⟨_,rfl,rfl⟩,⟨_,rfl,rfl⟩,trivial⟩
  cbv;all_goals exact trivial
 ·rintro⟨⟨k1,v1⟩,hk1,hi1,h_1⟩ hq1;have hm1:=(hq1.1 7 _ _ rfl);try dsimp only at hk1 hi1 h_1
  clear hq1;cbv
  by_cases hc1_:k1<a0.length
  ·have hb1:lt v1 (llen (r_S a0))=true:=mc hg ht hi1 hc1_;have hs1:=sY hg ht hi1 hc1_ hm1;obtain⟨z1,hz1⟩:=av hc1_;rw[aq hz1] at h_1;rw[bN] at h_1;try rw[←hg] at h_1
   try rw[←ht] at h_1
   try dsimp only at h_1
   rw[hb1];cbv;refine AStep.mk (d8 hi1) ?_;cbv;refine AGet.mk _ (vw hg ht hi1 hz1) ?_;cbv
   cases hb2:(seq z1 a1)
   rotate_left
   ·rw[ab hb2] at h_1;cbv;subst h_1;try dsimp only[lr,lrL,lrp,aH] at h
    subst h;exact ARet.mk trivial hX.symm
   rw[aa hb2] at h_1;cbv;try rw[hg] at h_1
   try rw[ht] at h_1
   refine⟨⟨(k1+1,(wrap .i64 (add v1 1))),hc1_,hs1,h_1⟩,Wk.of [] rfl rfl ?_ ?_,aB hc1_⟩
   ·cbv;all_goals exact⟨⟨_,rfl,rfl⟩,⟨_,rfl,rfl⟩,⟨_,rfl,rfl⟩,⟨_,rfl,rfl⟩,trivial⟩
   cbv;all_goals exact trivial
  have hb1:lt v1 (llen (r_S a0))=false:=kj hg ht hi1 hc1_;rw[List.drop_of_length_le (Nat.le_of_not_lt hc1_)] at h_1;rw[bN] at h_1;try rw[←hg] at h_1
  try rw[←ht] at h_1
  try dsimp only at h_1
  rw[hb1];cbv;refine⟨(),Wk.of [] rfl rfl ?_ ?_,h_1.symm⟩
  ·cbv;all_goals exact trivial
  cbv;all_goals exact trivial
 rintro _ hy1;replace hy1:=hy1.symm;subst hy1;try dsimp only[lr,lrL,lrp,aH] at h
 cbv;subst h;exact ARet.mk trivial hX.symm
def ir85:J:=js [jq 2 (.box 0),jq 3 (.box 1),jm 4 (ki 0)] [2,3] (.seq (.reg (some [[],[0],[0,1],[],[3],[],[5],[3,4,5,6],[3,4,5,6,7],[3,4,5,6,7,8],[0,1,2,3,4,5,6,7,8,9],[0,1,2,3,4,5,6,7,8,9,10]]) [jf 5 1 3,jk 6 5,jb 7 .mul .i 6 (ki 1440),jf 8 0 2,jk 9 8,jf 10 0 3,jk 11 10,ja 12 6 9 11,jf 13 2 12,jk 14 13,jb 15 .add .i 7 14,jm 4 15] [4]) .ret)
def rv85:List RV:=[.t 4]
def gu (g:G) (t:TE) (a0:Network) (a1:Trip):Option Int:=
 gd (((0:Int)≤a1.Leg))<|
 gt a0.Legs (g.nat a1.Leg) fun x1=>
 some (g.wrap .i64 (g.add (g.wrap .i64 (g.mul a1.Day 1440)) x1.Start))
theorem jZ {g:G} {t:TE} {a0:Network} {a1:Trip} {r:Int} (hg:g=G.real) (ht:t=TE.real) (h:gu g t a0 a1=some r):Fn Tryz.prog 85 [.g (Network.rs t a0),.g (Trip.rs t a1)] (.c (.r (.v (.int .i64 r)))):=by
 obtain⟨X,hX⟩:=aJ (.c (.r (.v (.int .i64 r))):X);rw[←hX];refine aE (rvs:=rv85) (j:=ir85) Tryz.func85 rfl (by kernel_rfl) (nb rfl) (by kernel_rfl) ac ?_;intro g2 F hg2 hF;obtain rfl:g2=g:=hg2.unique.trans hg.symm;clear hg2;obtain⟨_⟩:=g2;obtain⟨_⟩:=t
 obtain⟨a0_Legs,a0_Off,a0_Change⟩:=a0;obtain⟨a1_Leg,a1_Day⟩:=a1;unfold gu at h;try dsimp only at h
 cbv;obtain⟨hc1,h⟩:=ak h;refine AStep.mk hc1 ?_;cbv;obtain⟨x1,hx1,h⟩:=aV h;obtain⟨x1_From,x1_To,x1_Start,x1_Takes,x1_Days,x1_Room⟩:=x1;try dsimp only at h
 refine AGet.mk _ (bg hg ht hx1) ?_;cbv;obtain rfl:=Option.some.inj h;exact ARet.mk trivial hX.symm
def ir86:J:=js [jq 2 (.box 0),jq 3 (.box 1),jm 4 (ki 0)] [2,3] (.seq (.reg (some [[],[],[0,1],[],[3],[],[5],[3,4,5,6],[3,4,5,6,7],[3,4,5,6,7,8],[0,1,2,3,4,5,6,7,8,9],[0,1,2,3,4,5,6,7,8,9,10]]) [jl 5 3 2,jl 6 2 3,jc 7 85 [5,6],jf 8 0 2,jk 9 8,jf 10 0 3,jk 11 10,ja 12 6 9 11,jf 13 3 12,jk 14 13,jb 15 .add .i 7 14,jm 4 15] [4]) .ret)
def rv86:List RV:=[.t 4]
def iL (g:G) (t:TE) (a0:Network) (a1:Trip):Option Int:=
 cl (gu g t a0 a1) fun x1=>
 gd (((0:Int)≤a1.Leg))<|
 gt a0.Legs (g.nat a1.Leg) fun x2=>
 some (g.wrap .i64 (g.add x1 x2.Takes))
theorem jy {g:G} {t:TE} {a0:Network} {a1:Trip} {r:Int} (hg:g=G.real) (ht:t=TE.real) (h:iL g t a0 a1=some r):Fn Tryz.prog 86 [.g (Network.rs t a0),.g (Trip.rs t a1)] (.c (.r (.v (.int .i64 r)))):=by
 obtain⟨X,hX⟩:=aJ (.c (.r (.v (.int .i64 r))):X);rw[←hX];refine aE (rvs:=rv86) (j:=ir86) Tryz.func86 rfl (by kernel_rfl) (nb rfl) (by kernel_rfl) ac ?_;intro g2 F hg2 hF;obtain rfl:g2=g:=hg2.unique.trans hg.symm;clear hg2;obtain⟨_⟩:=g2;obtain⟨_⟩:=t
 obtain⟨a0_Legs,a0_Off,a0_Change⟩:=a0;obtain⟨a1_Leg,a1_Day⟩:=a1;unfold iL at h;try dsimp only at h
 cbv;obtain⟨x1,hx1,h⟩:=ae h;try dsimp only at h
 refine ACall.mk _ _ rfl (hF _ _ _ (jZ hg ht hx1)) (.inl rfl) (nb rfl) ?_;cbv;obtain⟨hc1,h⟩:=ak h;refine AStep.mk hc1 ?_;cbv;obtain⟨x2,hx2,h⟩:=aV h;obtain⟨x2_From,x2_To,x2_Start,x2_Takes,x2_Days,x2_Room⟩:=x2;try dsimp only at h
 refine AGet.mk _ (bg hg ht hx2) ?_;cbv;obtain rfl:=Option.some.inj h;exact ARet.mk trivial hX.symm
def FM:J:=js [jq 3 (.box 0),jm 6 (ki 0)] [1,2,3] (.seq (js [jm 7 2] [1,3,7] (.cond 7 (js [jm 8 1,jm 6 8] [6] .ret) .skip)) (js [jm 9 1,jf 10 2 3,jk 11 10,jb 12 .add .i 9 11,jm 6 12] [6] .ret))
def EQ:List RV:=[.t 6]
def fC (g:G) (t:TE) (a0:Network) (a1:Int) (a2:Bool):Int:=
 br a2
 (
  a1)
 (
  (g.wrap .i64 (g.add a1 a0.Change)))
theorem oN {g:G} {t:TE} {a0:Network} {a1:Int} {a2:Bool} {r:Int} (hg:g=G.real) (ht:t=TE.real) (h:fC g t a0 a1 a2=r):Fn Tryz.prog 149 [.g (Network.rs t a0),.c (.v (.int .i64 a1)),.c (.v (.bool a2))] (.c (.r (.v (.int .i64 r)))):=by
 obtain⟨X,hX⟩:=aJ (.c (.r (.v (.int .i64 r))):X);rw[←hX];refine aE (rvs:=EQ) (j:=FM) Tryz.func149 rfl (by kernel_rfl) (nb rfl) (by kernel_rfl) ac ?_;intro g2 F hg2 hF;obtain rfl:g2=g:=hg2.unique.trans hg.symm;clear hg2;obtain⟨_⟩:=g2;obtain⟨_⟩:=t
 obtain⟨a0_Legs,a0_Off,a0_Change⟩:=a0;unfold fC at h;try dsimp only at h
 cbv
 cases hb1:a2
 rotate_left
 ·rw[ab hb1] at h;cbv;subst h;exact ARet.mk trivial hX.symm
 rw[aa hb1] at h;cbv;subst h;exact ARet.mk trivial hX.symm
def E5:J:=js [jq 3 (.box 0),jq 6 (.alloc [.r (.v (.int .i64 0)),.r (.v (.int .i64 0))]),jm 7 kf] [1,2,3,6] (.seq (js [jm 8 (ki 0)] [1,2,3,6,8] (.bl 0 (.seq (js [jm 10 8,jb 11 .leq .i 10 (ki 60)] [1,2,3,6,8,11] (.cond 11 .skip (.exit 0))) (.seq (.block 1 (js [jm 14 1,jm 15 8,jq 16 (.bld [.r (.v (.int .i64 0)),.r (.v (.int .i64 0))] [(0,1,14),(1,1,15)]),jq 9 (.alloc [.r (.v (.int .i64 0)),.r (.v (.int .i64 0))]),jp (.st 2 9 16)] [1,2,3,6,8,9] (js [jl 17 3 3,jm 18 1,jm 19 8,jc 20 100 [17,18,19],jm 21 20,ju 22 21 (.ld true 3 3),ju 23 21 (.ld true 2 9),ju 24 21 (.call 85 true [22,23]),ju 25 21 (.mv 2),ju 26 21 (.bin .geq .i 24 25),jq 27 (.pick 21 26 kf)] [1,2,3,6,8,9,27] (.cond 27 (js [jl 28 2 9,jp (.st 2 6 28),jm 7 kt] [6,7] .ret) .skip)))) (.reg none [jm 12 8,jb 13 .add .i 12 (ki 1),jm 8 13] [1,2,3,6,8]))))) (js [jq 29 (.bld [.r (.v (.int .i64 0)),.r (.v (.int .i64 0))] []),jp (.st 2 6 29),jm 7 kf] [6,7] .ret))
def Ea:List RV:=[.c 6 true 2,.t 7]
def eK (g:G) (t:TE) (a0:Network) (a1:Int) (a2:Int):Nat→Int→Option (LR (Trip×Bool) Unit)
 |0,v1=>
  some (LR.out ())
 |n1+1,v1=>
  cl (kT g t a0 a1 v1) fun x1=>
  br x1
  (
   cl (gu g t a0 (Trip.mk a1 v1)) fun x2=>
   br (g.le a2 x2)
   (
    some (LR.ret (((Trip.mk a1 v1),true))))
   (
    eK g t a0 a1 a2 n1 (g.wrap .i64 (g.add v1 1))))
  (
   eK g t a0 a1 a2 n1 (g.wrap .i64 (g.add v1 1)))
def qd (g:G) (t:TE) (a0:Network) (a1:Int) (a2:Int):Option (Trip×Bool):=
 cl (eK g t a0 a1 a2 (cX 0 60) 0) fun o1=>lr o1 fun y1=>
 some (((Trip.mk 0 0),false))
theorem Bc {g:G} {t:TE} {a0:Network} {a1:Int} {a2:Int} {r:Trip×Bool} (hg:g=G.real) (ht:t=TE.real) (h:qd g t a0 a1 a2=some r):Fn Tryz.prog 112 [.g (Network.rs t a0),.c (.v (.int .i64 a1)),.c (.v (.int .i64 a2))] (.u [.g (Trip.ds t r.1),.c (.r (.v (.bool r.2)))]):=by
 obtain⟨X,hX⟩:=aJ (.u [.g (Trip.ds t r.1),.c (.r (.v (.bool r.2)))]:X);rw[←hX];refine aE (rvs:=Ea) (j:=E5) Tryz.func112 rfl (by kernel_rfl) (nb rfl) (by kernel_rfl) ac ?_;intro g2 F hg2 hF;obtain rfl:g2=g:=hg2.unique.trans hg.symm;clear hg2;obtain⟨wrap,_,le,_,_,_,_,_,_,_,_,_,_,add⟩:=g2;obtain⟨_,_,_,_,r_Leg,_,r_I64⟩:=t
 obtain⟨a0_Legs,a0_Off,a0_Change⟩:=a0;unfold qd at h;try dsimp only at h
 cbv;obtain⟨o1,ho1,h⟩:=ae h;try dsimp only at h
 try rw[hg] at ho1
 try rw[ht] at ho1
 refine ABL.mk {p:Nat×Int//p.1=cX p.2 60∧0≤p.2∧eK G.real TE.real (Network.mk a0_Legs a0_Off a0_Change) a1 a2 p.1 p.2=some o1} (fun⟨⟨n1,v1⟩,_⟩=>({sl:=[(1,.c (.r (.v (.int .i64 a1)))),(2,.c (.r (.v (.int .i64 a2)))),(3,.c (.p 0 3 0 0)),(6,.c (.p 1 2 0 0)),(8,.c (.r (.v (.int .i64 v1))))],tab:=[(0,some (.foc 3 [] [.r (.s 6 (r_Leg a0_Legs)),.r (.s 1 (r_I64 a0_Off)),.r (.v (.int .i64 a0_Change))] [])),(1,some (.foc 2 [] [.r (.v (.int .i64 0)),.r (.v (.int .i64 0))] []))]}:St)) 2 (fun p=>p.1.1) ⟨(cX 0 60,0),rfl,Int.le_refl _,ho1⟩ (Unit) (fun _=>({sl:=[(6,.c (.p 0 2 0 0))],tab:=[(0,some (.foc 2 [] [.r (.v (.int .i64 0)),.r (.v (.int .i64 0))] []))]}:St)) 1 (fun y=>o1=LR.out y) ?_ ?_ ?_
 ·refine Wk.of [(0,some 0),(1,some 16)] rfl rfl ?_ ?_
  ·cbv;all_goals exact⟨⟨_,rfl,rfl⟩,⟨_,rfl,rfl⟩,⟨_,rfl,rfl⟩,⟨_,rfl,rfl⟩,⟨_,rfl,rfl⟩,trivial⟩
  cbv;all_goals exact⟨⟨_,rfl,_,rfl,rfl,rfl,rfl,trivial⟩,⟨_,rfl,_,rfl,rfl,rfl,trivial⟩,trivial⟩
 ·rintro⟨⟨n1,v1⟩,hn1,hi1,h_1⟩ hq1;try dsimp only at hn1 hi1 h_1
  clear hq1;cbv;rcases n1 with _|n1
  ·have hb1:le v1 60=false:=jA hg hn1;rw[eK] at h_1;try rw[←hg] at h_1
   try rw[←ht] at h_1
   try dsimp only at h_1
   rw[hb1];cbv;refine⟨(),Wk.of [(0,some 1)] rfl rfl ?_ ?_,(Option.some.inj h_1).symm⟩
   ·cbv;all_goals exact⟨⟨_,rfl,rfl⟩,trivial⟩
   cbv;all_goals exact⟨⟨_,rfl,_,rfl,rfl,rfl,trivial⟩,trivial⟩
  have hb1:le v1 60=true:=kz hg hn1;have hl1:=qr hn1;have hs1:=nr hg hn1 hi1 (by decide) (by decide);rw[eK] at h_1;try rw[←hg] at h_1
  try rw[←ht] at h_1
  try dsimp only at h_1
  rw[hb1];cbv;obtain⟨x1,hx1,h_1⟩:=ae h_1;try dsimp only at h_1
  refine ACall.mk _ _ rfl (hF _ _ _ (pt hg ht hx1)) (.inl rfl) (nb rfl) ?_;cbv
  cases hb2:x1
  ·rw[aa hb2] at h_1;cbv;iterate 5 try(rw[hb2];cbv)
   try rw[hg] at h_1
   try rw[ht] at h_1
   refine⟨⟨(n1,(wrap .i64 (add v1 1))),hs1.1,hs1.2,h_1⟩,Wk.of [(0,some 0),(1,some 1)] rfl rfl ?_ ?_,Nat.lt_succ_self _⟩
   ·cbv;all_goals exact⟨⟨_,rfl,rfl⟩,⟨_,rfl,rfl⟩,⟨_,rfl,rfl⟩,⟨_,rfl,rfl⟩,⟨_,rfl,rfl⟩,trivial⟩
   cbv;all_goals exact⟨⟨_,rfl,_,rfl,rfl,rfl,rfl,trivial⟩,⟨_,rfl,_,rfl,rfl,rfl,trivial⟩,trivial⟩
  rw[ab hb2] at h_1;cbv;iterate 2 try(rw[hb2];cbv)
  obtain⟨x2,hx2,h_1⟩:=ae h_1;try dsimp only at h_1
  refine ACall.mk _ _ rfl (hF _ _ _ (jZ hg ht hx2)) (.inl rfl) (nb rfl) ?_;cbv;iterate 3 try(rw[hb2];cbv)
  cases hb3:(le a2 x2)
  rotate_left
  ·rw[ab hb3] at h_1;cbv;obtain rfl:=Option.some.inj h_1;try dsimp only[lr,lrL,lrp,aH] at h
   obtain rfl:=Option.some.inj h;exact ARet.mk trivial hX.symm
  rw[aa hb3] at h_1;cbv;try rw[hg] at h_1
  try rw[ht] at h_1
  refine⟨⟨(n1,(wrap .i64 (add v1 1))),hs1.1,hs1.2,h_1⟩,Wk.of [(0,some 0),(1,some 1)] rfl rfl ?_ ?_,Nat.lt_succ_self _⟩
  ·cbv;all_goals exact⟨⟨_,rfl,rfl⟩,⟨_,rfl,rfl⟩,⟨_,rfl,rfl⟩,⟨_,rfl,rfl⟩,⟨_,rfl,rfl⟩,trivial⟩
  cbv;all_goals exact⟨⟨_,rfl,_,rfl,rfl,rfl,rfl,trivial⟩,⟨_,rfl,_,rfl,rfl,rfl,trivial⟩,trivial⟩
 rintro _ hy1;replace hy1:=hy1.symm;subst hy1;try dsimp only[lr,lrL,lrp,aH] at h
 cbv;obtain rfl:=Option.some.inj h;exact ARet.mk trivial hX.symm
def EF:J:=js [jq 5 (.alloc [.r (.v (.int .i64 0)),.r (.v (.int .i64 0))]),jm 6 kf] [0,1,2,5] (js [jl 10 3 2,jm 11 0,jm 12 1,jc 13 112 [10,11,12],jm 9 13,jq 14 (.ext 0 9),jq 15 (.ext 1 9),jq 7 (.alloc [.r (.v (.int .i64 0)),.r (.v (.int .i64 0))]),jp (.st 2 7 14),jm 8 15] [5,7,8] (js [jl 16 2 7,jm 17 8,jp (.st 2 5 16),jm 6 17] [5,6] .ret))
def D9:List RV:=[.c 5 true 2,.t 6]
def I_nextOf_1 (g:G) (t:TE) (a0:Int) (a1:Int) (a2:Network):Option (Trip×Bool):=
 cl (qd g t a2 a0 a1) fun x1=>
 some (((Trip.mk x1.1.Leg x1.1.Day),x1.2))
theorem sW {g:G} {t:TE} {a0:Int} {a1:Int} {a2:Network} {r:Trip×Bool} (hg:g=G.real) (ht:t=TE.real) (h:I_nextOf_1 g t a0 a1 a2=some r):Fn Tryz.prog 111 [.c (.v (.int .i64 a0)),.c (.v (.int .i64 a1)),.q (Network.rs t a2)] (.u [.g (Trip.ds t r.1),.c (.r (.v (.bool r.2)))]):=by
 obtain⟨X,hX⟩:=aJ (.u [.g (Trip.ds t r.1),.c (.r (.v (.bool r.2)))]:X);rw[←hX];refine aE (rvs:=D9) (j:=EF) Tryz.func111 rfl (by kernel_rfl) (nb rfl) (by kernel_rfl) ac ?_;intro g2 F hg2 hF;obtain rfl:g2=g:=hg2.unique.trans hg.symm;clear hg2;obtain⟨_⟩:=g2;obtain⟨_⟩:=t
 obtain⟨a2_Legs,a2_Off,a2_Change⟩:=a2;unfold I_nextOf_1 at h;try dsimp only at h
 cbv;obtain⟨x1,hx1,h⟩:=ae h;obtain⟨⟨x1_1_Leg,x1_1_Day⟩,x1_2⟩:=x1;try dsimp only at h
 refine ACall.mk _ _ rfl (hF _ _ _ (Bc hg ht hx1)) (.inl rfl) (nb rfl) ?_;cbv;obtain rfl:=Option.some.inj h;exact ARet.mk trivial hX.symm
def Fz:J:=js [jq 3 (.box 1),jm 4 kf] [0,3] (.seq (js [jm 7 0,jq 8 (.len false 7),jm 9 (ki 0)] [3,7,8,9] (.bl 0 (js [jb 10 .lss .i 9 8] [3,7,8,9,10] (.seq (.cond 10 .skip (.exit 0)) (.seq (.block 1 (js [ja 11 2 7 9,jl 12 2 11,jq 6 (.alloc [.r (.v (.int .i64 0)),.r (.v (.int .i64 0))]),jp (.st 2 6 12)] [3,6,7,8,9] (js [jl 13 2 6,jl 14 2 3,jq 15 (.eqs false [.i,.i] 13 14)] [3,7,8,9,15] (.cond 15 (js [jm 4 kt] [4] .ret) .skip)))) (.reg none [jb 16 .add .i 9 (ki 1),jm 9 16] [3,7,8,9])))))) (js [jm 4 kf] [4] .ret))
def EV:List RV:=[.t 4]
def bO (g:G) (t:TE) (a1:Trip):List Trip→LR Bool Unit
 |[]=>
  (LR.out ())
 |z1::ls1=>
  br (g.all [(g.eq z1.Leg a1.Leg),(g.eq z1.Day a1.Day)])
  (
   (LR.ret true))
  (
   bO g t a1 ls1)
def I_hasTrip (g:G) (t:TE) (a0:List Trip) (a1:Trip):Bool:=
 lP (bO g t a1 a0) fun o1=>lrp o1 fun y1=>
 false
theorem uP {g:G} {t:TE} {a0:List Trip} {a1:Trip} {r:Bool} (hg:g=G.real) (ht:t=TE.real) (h:I_hasTrip g t a0 a1=r):Fn Tryz.prog 127 [.c (.s 2 (t.r_Trip a0)),.g (Trip.rs t a1)] (.c (.r (.v (.bool r)))):=by
 obtain⟨X,hX⟩:=aJ (.c (.r (.v (.bool r))):X);rw[←hX];refine aE (rvs:=EV) (j:=Fz) Tryz.func127 rfl (by kernel_rfl) (nb rfl) (by kernel_rfl) ac ?_;intro g2 F hg2 hF;obtain rfl:g2=g:=hg2.unique.trans hg.symm;clear hg2;obtain⟨wrap,lt,_,eq,_,_,_,_,_,_,_,_,_,add,_,_,_,_,_,_,_,llen,_,_,_,_,_,_,_,_,_,_,_,all⟩:=g2;obtain⟨_,_,_,_,_,_,_,_,r_Trip⟩:=t
 obtain⟨a1_Leg,a1_Day⟩:=a1;unfold I_hasTrip at h;try dsimp only at h
 cbv;obtain⟨o1,ho1,h⟩:=ag h;try dsimp only at h
 try rw[hg] at ho1
 try rw[ht] at ho1
 refine ABL.mk {p:Nat×Int//p.1≤a0.length∧p.2=((p.1:Nat):Int)∧bO G.real TE.real (Trip.mk a1_Leg a1_Day) (List.drop p.1 a0)=o1} (fun⟨⟨k1,v1⟩,_⟩=>({sl:=[(3,.c (.p 0 2 0 0)),(7,.c (.r (.s 2 (r_Trip a0)))),(8,.c (.r (.v (.int .i64 (llen (r_Trip a0)))))),(9,.c (.r (.v (.int .i64 v1))))],tab:=[(0,some (.foc 2 [] [.r (.v (.int .i64 a1_Leg)),.r (.v (.int .i64 a1_Day))] []))]}:St)) 1 (fun p=>a0.length-p.1.1) ⟨(0,0),Nat.zero_le _,rfl,ho1⟩ (Unit) (fun _=>({sl:=[],tab:=[]}:St)) 0 (fun y=>o1=LR.out y) ?_ ?_ ?_
 ·refine Wk.of [(0,some 0)] rfl rfl ?_ ?_
  ·cbv;all_goals exact⟨⟨_,rfl,rfl⟩,⟨_,rfl,rfl⟩,⟨_,rfl,rfl⟩,⟨_,rfl,rfl⟩,trivial⟩
  cbv;all_goals exact⟨⟨_,rfl,_,rfl,rfl,rfl,trivial⟩,trivial⟩
 ·rintro⟨⟨k1,v1⟩,hk1,hi1,h_1⟩ hq1;have hm1:=(hq1.1 7 _ _ rfl);try dsimp only at hk1 hi1 h_1
  clear hq1;cbv
  by_cases hc1_:k1<a0.length
  ·have hb1:lt v1 (llen (r_Trip a0))=true:=cK hg ht hi1 hc1_;have hs1:=eE hg ht hi1 hc1_ hm1;obtain⟨z1,hz1⟩:=av hc1_;rw[aq hz1] at h_1;rw[bO] at h_1;obtain⟨z1_Leg,z1_Day⟩:=z1;try rw[←hg] at h_1
   try rw[←ht] at h_1
   try dsimp only at h_1
   rw[hb1];cbv;refine AStep.mk (d8 hi1) ?_;cbv;refine AGet.mk _ (cN hg ht hi1 hz1) ?_;cbv
   cases hb2:(all [(eq z1_Leg a1_Leg),(eq z1_Day a1_Day)])
   rotate_left
   ·rw[ab hb2] at h_1;cbv;subst h_1;try dsimp only[lr,lrL,lrp,aH] at h
    subst h;exact ARet.mk trivial hX.symm
   rw[aa hb2] at h_1;cbv;try rw[hg] at h_1
   try rw[ht] at h_1
   refine⟨⟨(k1+1,(wrap .i64 (add v1 1))),hc1_,hs1,h_1⟩,Wk.of [(0,some 0)] rfl rfl ?_ ?_,aB hc1_⟩
   ·cbv;all_goals exact⟨⟨_,rfl,rfl⟩,⟨_,rfl,rfl⟩,⟨_,rfl,rfl⟩,⟨_,rfl,rfl⟩,trivial⟩
   cbv;all_goals exact⟨⟨_,rfl,_,rfl,rfl,rfl,trivial⟩,trivial⟩
  have hb1:lt v1 (llen (r_Trip a0))=false:=cf hg ht hi1 hc1_;rw[List.drop_of_length_le (Nat.le_of_not_lt hc1_)] at h_1;rw[bO] at h_1;try rw[←hg] at h_1
  try rw[←ht] at h_1
  try dsimp only at h_1
  rw[hb1];cbv;refine⟨(),Wk.of [] rfl rfl ?_ ?_,h_1.symm⟩
  ·cbv;all_goals exact trivial
  cbv;all_goals exact trivial
 rintro _ hy1;replace hy1:=hy1.symm;subst hy1;try dsimp only[lr,lrL,lrp,aH] at h
 cbv;subst h;exact ARet.mk trivial hX.symm
def E4:J:=js [jq 8 (.alloc [.r (.v (.int .i64 0)),.r (.v (.int .i64 0))]),jm 9 kf] [0,1,2,3,4,5,8] (.seq (js [jm 10 (ki 0)] [0,1,2,3,4,5,8,10] (.bl 0 (.seq (js [jm 12 10,jb 13 .leq .i 12 (ki 60)] [0,1,2,3,4,5,8,10,13] (.cond 13 .skip (.exit 0))) (.seq (.block 1 (js [jm 16 0,jm 17 10,jq 18 (.bld [.r (.v (.int .i64 0)),.r (.v (.int .i64 0))] [(0,1,16),(1,1,17)]),jq 11 (.alloc [.r (.v (.int .i64 0)),.r (.v (.int .i64 0))]),jp (.st 2 11 18)] [0,1,2,3,4,5,8,10,11] (.seq (.reg (some [[],[],[],[0,1,2],[0,1,2,3],[0,1,2,3,4],[0,1,2,3,4],[0,1,2,3,4,5,6],[0,1,2,3,4],[0,1,2,3,4,5,6,7,8],[0,1,2,3,4,5,6,7,8,9],[0,1,2,3,4,5,6,7,8,9,10],[0,1,2,3,4,5,6,7,8,9,10,11],[0,1,2,3,4,5,6,7,8,9,10,11],[0,1,2,3,4,5,6,7,8,9,10,11,12,13],[0,1,2,3,4,5,6,7,8,9,10,11,12,13,14],[0,1,2,3,4,5,6,7,8,9,10,11,12,13,14,15],[0,1,2,3,4,5,6,7,8,9,10,11,12,13,14,15,16],[0,1,2,3,4,5,6,7,8,9,10,11,12,13,14,15,16,17],[0,1,2,3,4,5,6,7,8,9,10,11,12,13,14,15,16,17,18],[0,1,2,3,4,5,6,7,8,9,10,11,12,13,14,15,16,17],[0,1,2,3,4,5,6,7,8,9,10,11,12,13,14,15,16,17,18,19,20],[0,1,2,3,4,5,6,7,8,9,10,11,12,13,14,15,16,17,18,19,20,21],[0,1,2,3,4,5,6,7,8,9,10,11,12,13,14,15,16,17,18,19,20,21,22],[0,1,2,3,4,5,6,7,8,9,10,11,12,13,14,15,16,17],[0,1,2,3,4,5,6,7,8,9,10,11,12,13,14,15,16,17],[0,1,2,3,4,5,6,7,8,9,10,11,12,13,14,15,16,17,24,25],[0,1,2,3,4,5,6,7,8,9,10,11,12,13,14,15,16,17,18,19,20,21,22,23,24,25,26],[0,1,2,3,4,5,6,7,8,9,10,11,12,13,14,15,16,17],[0,1,2,3,4,5,6,7,8,9,10,11,12,13,14,15,16,17,18,19,20,21,22,23,24,25,26,27,28],[0,1,2,3,4,5,6,7,8,9,10,11,12,13,14,15,16,17,18,19,20,21,22,23,24,25,26,27,28,29]]) [jl 19 3 2,jm 20 0,jm 21 10,jc 22 100 [19,20,21],jm 23 22,ju 24 23 (.ld true 3 2),ju 25 23 (.ld true 2 11),ju 26 23 (.call 85 true [24,25]),ju 27 23 (.mv 1),ju 28 23 (.bin .geq .i 26 27),jq 29 (.pick 23 28 kf),jm 30 29,ju 31 30 (.ld false 1 3),ju 32 30 (.ld true 2 11),ju 33 30 (.call 127 true [31,32]),ju 34 30 (.not 33),jq 35 (.pick 30 34 kf),jm 36 35,ju 37 36 (.fa 0 2),ju 38 36 (.ld false 1 37),ju 39 36 (.mv 0),ju 40 36 (.ia 6 38 39),ju 41 36 (.fa 5 40),ju 42 36 (.ld false 1 41),ju 43 36 (.ld false 1 4),ju 44 36 (.ld true 2 11),ju 45 36 (.call 77 true [43,44]),ju 46 36 (.bin .sub .i 42 45),ju 47 36 (.ld false 1 5),ju 48 36 (.bin .geq .i 46 47),jq 49 (.pick 36 48 kf)] [0,1,2,3,4,5,8,10,11,49]) (.cond 49 (js [jl 50 2 11,jp (.st 2 8 50),jm 9 kt] [8,9] .ret) .skip)))) (.reg none [jm 14 10,jb 15 .add .i 14 (ki 1),jm 10 15] [0,1,2,3,4,5,8,10]))))) (js [jq 51 (.bld [.r (.v (.int .i64
 0)),.r (.v (.int .i64 0))] []),jp (.st 2 8 51),jm 9 kf] [8,9] .ret))
def EG:List RV:=[.c 8 true 2,.t 9]
def bt (g:G) (t:TE) (a0:Int) (a1:Int) (a2:Network) (a3:List Trip) (a4:List Booking) (a5:Int):Nat→Int→Option (LR (Trip×Bool) Unit)
 |0,v1=>
  some (LR.out ())
 |n1+1,v1=>
  cl (kT g t a2 a0 v1) fun x1=>
  br x1
  (
   cl (gu g t a2 (Trip.mk a0 v1)) fun x2=>
   br (g.le a1 x2)
   (
    lP (I_hasTrip g t a3 (Trip.mk a0 v1)) fun x3=>
    br x3
    (
     bt g t a0 a1 a2 a3 a4 a5 n1 (g.wrap .i64 (g.add v1 1)))
    (
     gd (((0:Int)≤a0))<|
     gt a2.Legs (g.nat a0) fun x4=>
     lP (cA g t a4 (Trip.mk a0 v1)) fun x5=>
     br (g.le a5 (g.wrap .i64 (g.sub x4.Room x5)))
     (
      some (LR.ret (((Trip.mk a0 v1),true))))
     (
      bt g t a0 a1 a2 a3 a4 a5 n1 (g.wrap .i64 (g.add v1 1)))))
   (
    bt g t a0 a1 a2 a3 a4 a5 n1 (g.wrap .i64 (g.add v1 1))))
  (
   bt g t a0 a1 a2 a3 a4 a5 n1 (g.wrap .i64 (g.add v1 1)))
def I_freeOf_1 (g:G) (t:TE) (a0:Int) (a1:Int) (a2:Network) (a3:List Trip) (a4:List Booking) (a5:Int):Option (Trip×Bool):=
 cl (bt g t a0 a1 a2 a3 a4 a5 (cX 0 60) 0) fun o1=>lr o1 fun y1=>
 some (((Trip.mk 0 0),false))
theorem tf {g:G} {t:TE} {a0:Int} {a1:Int} {a2:Network} {a3:List Trip} {a4:List Booking} {a5:Int} {r:Trip×Bool} (hg:g=G.real) (ht:t=TE.real) (h:I_freeOf_1 g t a0 a1 a2 a3 a4 a5=some r):Fn Tryz.prog 126 [.c (.v (.int .i64 a0)),.c (.v (.int .i64 a1)),.q (Network.rs t a2),.q [.s 2 (t.r_Trip a3)],.q [.s 4 (t.r_Booking a4)],.q [.v (.int .i64 a5)]] (.u [.g (Trip.ds t r.1),.c (.r (.v (.bool r.2)))]):=by
 obtain⟨X,hX⟩:=aJ (.u [.g (Trip.ds t r.1),.c (.r (.v (.bool r.2)))]:X);rw[←hX];refine aE (rvs:=EG) (j:=E4) Tryz.func126 rfl (by kernel_rfl) (nb rfl) (by kernel_rfl) ac ?_;intro g2 F hg2 hF;obtain rfl:g2=g:=hg2.unique.trans hg.symm;clear hg2;obtain⟨wrap,_,le,_,_,_,_,_,_,_,_,_,_,add,sub⟩:=g2;obtain⟨_,_,_,_,r_Leg,_,r_I64,_,r_Trip,_,r_Booking⟩:=t
 obtain⟨a2_Legs,a2_Off,a2_Change⟩:=a2;unfold I_freeOf_1 at h;try dsimp only at h
 cbv;obtain⟨o1,ho1,h⟩:=ae h;try dsimp only at h
 try rw[hg] at ho1
 try rw[ht] at ho1
 refine ABL.mk {p:Nat×Int//p.1=cX p.2 60∧0≤p.2∧bt G.real TE.real a0 a1 (Network.mk a2_Legs a2_Off a2_Change) a3 a4 a5 p.1 p.2=some o1} (fun⟨⟨n1,v1⟩,_⟩=>({sl:=[(0,.c (.r (.v (.int .i64 a0)))),(1,.c (.r (.v (.int .i64 a1)))),(2,.q [(.s 6 (r_Leg a2_Legs)),(.s 1 (r_I64 a2_Off)),(.v (.int .i64 a2_Change))]),(3,.q [(.s 2 (r_Trip a3))]),(4,.q [(.s 4 (r_Booking a4))]),(5,.q [(.v (.int .i64 a5))]),(8,.c (.p 0 2 0 0)),(10,.c (.r (.v (.int .i64 v1))))],tab:=[(0,some (.foc 2 [] [.r (.v (.int .i64 0)),.r (.v (.int .i64 0))] []))]}:St)) 1 (fun p=>p.1.1) ⟨(cX 0 60,0),rfl,Int.le_refl _,ho1⟩ (Unit) (fun _=>({sl:=[(8,.c (.p 0 2 0 0))],tab:=[(0,some (.foc 2 [] [.r (.v (.int .i64 0)),.r (.v (.int .i64 0))] []))]}:St)) 1 (fun y=>o1=LR.out y) ?_ ?_ ?_
 ·refine Wk.of [(0,some 0)] rfl rfl ?_ ?_
  ·cbv;all_goals exact⟨⟨_,rfl,rfl⟩,⟨_,rfl,rfl⟩,⟨_,rfl,rfl⟩,⟨_,rfl,rfl⟩,trivial⟩
  cbv;all_goals exact⟨⟨_,rfl,_,rfl,rfl,rfl,trivial⟩,trivial⟩
 ·rintro⟨⟨n1,v1⟩,hn1,hi1,h_1⟩ hq1;try dsimp only at hn1 hi1 h_1
  clear hq1;cbv;rcases n1 with _|n1
  ·have hb1:le v1 60=false:=jA hg hn1;rw[bt] at h_1;try rw[←hg] at h_1
   try rw[←ht] at h_1
   try dsimp only at h_1
   rw[hb1];cbv;refine⟨(),Wk.of [(0,some 0)] rfl rfl ?_ ?_,(Option.some.inj h_1).symm⟩
   ·cbv;all_goals exact⟨⟨_,rfl,rfl⟩,trivial⟩
   cbv;all_goals exact⟨⟨_,rfl,_,rfl,rfl,rfl,trivial⟩,trivial⟩
  have hb1:le v1 60=true:=kz hg hn1;have hl1:=qr hn1;have hs1:=nr hg hn1 hi1 (by decide) (by decide);rw[bt] at h_1;try rw[←hg] at h_1
  try rw[←ht] at h_1
  try dsimp only at h_1
  rw[hb1];cbv;obtain⟨x1,hx1,h_1⟩:=ae h_1;try dsimp only at h_1
  refine ACall.mk _ _ rfl (hF _ _ _ (pt hg ht hx1)) (.inl rfl) (nb rfl) ?_;cbv
  cases hb2:x1
  ·rw[aa hb2] at h_1;cbv;iterate 5 try(rw[hb2];cbv)
   try rw[hg] at h_1
   try rw[ht] at h_1
   refine⟨⟨(n1,(wrap .i64 (add v1 1))),hs1.1,hs1.2,h_1⟩,Wk.of [(0,some 0)] rfl rfl ?_ ?_,Nat.lt_succ_self _⟩
   ·cbv;all_goals exact⟨⟨_,rfl,rfl⟩,⟨_,rfl,rfl⟩,⟨_,rfl,rfl⟩,⟨_,rfl,rfl⟩,trivial⟩
   cbv;all_goals exact⟨⟨_,rfl,_,rfl,rfl,rfl,trivial⟩,trivial⟩
  rw[ab hb2] at h_1;cbv;iterate 2 try(rw[hb2];cbv)
  obtain⟨x2,hx2,h_1⟩:=ae h_1;try dsimp only at h_1
  refine ACall.mk _ _ rfl (hF _ _ _ (jZ hg ht hx2)) (.inl rfl) (nb rfl) ?_;cbv;iterate 3 try(rw[hb2];cbv)
  cases hb3:(le a1 x2)
  ·rw[aa hb3] at h_1;cbv;iterate 4 try(rw[hb3];cbv)
   try rw[hg] at h_1
   try rw[ht] at h_1
   refine⟨⟨(n1,(wrap .i64 (add v1 1))),hs1.1,hs1.2,h_1⟩,Wk.of [(0,some 0)] rfl rfl ?_ ?_,Nat.lt_succ_self _⟩
   ·cbv;all_goals exact⟨⟨_,rfl,rfl⟩,⟨_,rfl,rfl⟩,⟨_,rfl,rfl⟩,⟨_,rfl,rfl⟩,trivial⟩
   cbv;all_goals exact⟨⟨_,rfl,_,rfl,rfl,rfl,trivial⟩,trivial⟩
  rw[ab hb3] at h_1;cbv;iterate 2 try(rw[hb3];cbv)
  obtain⟨x3,hx3,h_1⟩:=ag h_1;try dsimp only at h_1
  refine ACall.mk _ _ rfl (hF _ _ _ (uP hg ht hx3)) (.inl rfl) (nb rfl) ?_;cbv;iterate 2 try(rw[hb3];cbv)
  cases hb4:x3
  rotate_left
  ·rw[ab hb4] at h_1;cbv;iterate 12 try(rw[hb4];cbv)
   try rw[hg] at h_1
   try rw[ht] at h_1
   refine⟨⟨(n1,(wrap .i64 (add v1 1))),hs1.1,hs1.2,h_1⟩,Wk.of [(0,some 0)] rfl rfl ?_ ?_,Nat.lt_succ_self _⟩
   ·cbv;all_goals exact⟨⟨_,rfl,rfl⟩,⟨_,rfl,rfl⟩,⟨_,rfl,rfl⟩,⟨_,rfl,rfl⟩,trivial⟩
   cbv;all_goals exact⟨⟨_,rfl,_,rfl,rfl,rfl,trivial⟩,trivial⟩
  rw[aa hb4] at h_1;cbv;iterate 3 try(rw[hb4];cbv)
  obtain⟨hc1,h_1⟩:=ak h_1;refine AStep.mk hc1 ?_;cbv;obtain⟨x4,hx4,h_1⟩:=aV h_1;obtain⟨x4_From,x4_To,x4_Start,x4_Takes,x4_Days,x4_Room⟩:=x4;try dsimp only at h_1
  refine AGet.mk _ (bg hg ht hx4) ?_;cbv;iterate 5 try(rw[hb4];cbv)
  obtain⟨x5,hx5,h_1⟩:=ag h_1;try dsimp only at h_1
  refine ACall.mk _ _ rfl (hF _ _ _ (jJ hg ht hx5)) (.inl rfl) (nb rfl) ?_;cbv;iterate 4 try(rw[hb4];cbv)
  cases hb5:(le a5 (wrap .i64 (sub x4_Room x5)))
  rotate_left
  ·rw[ab hb5] at h_1;cbv;obtain rfl:=Option.some.inj h_1;try dsimp only[lr,lrL,lrp,aH] at h
   obtain rfl:=Option.some.inj h;exact ARet.mk trivial hX.symm
  rw[aa hb5] at h_1;cbv;try rw[hg] at h_1
  try rw[ht] at h_1
  refine⟨⟨(n1,(wrap .i64 (add v1 1))),hs1.1,hs1.2,h_1⟩,Wk.of [(0,some 0)] rfl rfl ?_ ?_,Nat.lt_succ_self _⟩
  ·cbv;all_goals exact⟨⟨_,rfl,rfl⟩,⟨_,rfl,rfl⟩,⟨_,rfl,rfl⟩,⟨_,rfl,rfl⟩,trivial⟩
  cbv;all_goals exact⟨⟨_,rfl,_,rfl,rfl,rfl,trivial⟩,trivial⟩
 rintro _ hy1;replace hy1:=hy1.symm;subst hy1;try dsimp only[lr,lrL,lrp,aH] at h
 cbv;obtain rfl:=Option.some.inj h;exact ARet.mk trivial hX.symm
def callFd (g:G) (t:TE) (f:Fd) (x0:Int) (x1:Int):Option (Trip×Bool):=match f with
 |.I_nextOf_1 a0=>I_nextOf_1 g t x0 x1 a0
 |.I_freeOf_1 a0 a1 a2 a3=>I_freeOf_1 g t x0 x1 a0 a1 a2 a3
theorem uh {g:G} {t:TE} {f:Fd} {x0:Int} {x1:Int} {r:Trip×Bool} (hg:g=G.real) (ht:t=TE.real) (h:callFd g t f x0 x1=some r):∃(q:Nat) (bs:List (List R)),t.r_Fd f=.fn q bs∧(gH Tryz.prog q=true∧Fn Tryz.prog q ([.c (.v (.int .i64 x0)),.c (.v (.int .i64 x1))]++bs.map A.q) (.u [.g (Trip.ds t r.1),.c (.r (.v (.bool r.2)))])):=by
 cases f with
 |I_nextOf_1 a0=>
  exact⟨_,_,(kD ht a0).symm,by kernel_rfl,sW hg ht h⟩
 |I_freeOf_1 a0 a1 a2 a3=>
  exact⟨_,_,(kp ht a0 a1 a2 a3).symm,by kernel_rfl,tf hg ht h⟩
def Ft:J:=js [jq 5 (.box 0),jq 10 (.mv (.k (.c (.n 1))))] [1,2,3,4,5] (js [jl 23 3 5,jc 24 82 [23],jm 11 24] [1,2,3,4,5,11] (js [jm 25 11,jm 26 2,jc 27 84 [25,26],jm 12 27] [1,3,4,5,11,12] (.seq (js [jm 28 12,jb 29 .lss .i 28 (ki 0),jm 30 29,jv 31 30 (.mv 3),jv 32 30 (.bin .gtr .i 31 (ki 100000)),jq 33 (.pick 30 kt 32),jm 34 33,jv 35 34 (.mv 4),jv 36 34 (.bin .lss .i 35 (ki 0)),jq 37 (.pick 34 kt 36)] [1,3,4,5,11,12,37] (.cond 37 (js [jq 10 (.mv (.k (.c (.n 1))))] [10] .ret) .skip)) (js [jq 38 (.bsl 1 []),jm 13 38] [1,3,4,5,11,12,13] (.seq (js [jm 39 11,jq 40 (.len false 39),jm 41 (ki 0)] [1,3,4,5,11,12,13,40,41] (.bl 0 (js [jb 42 .lss .i 41 40] [1,3,4,5,11,12,13,40,41,42] (.seq (.cond 42 .skip (.exit 0)) (.seq (.block 1 (.reg none [jm 43 13,jq 44 (.bsl 1 [(.k (V.i (-1)))]),jq 45 (.app 1 8 true 43 44),jm 13 45] [1,3,4,5,11,12,13,40,41])) (.reg none [jb 46 .add .i 41 (ki 1),jm 41 46] [1,3,4,5,11,12,13,40,41])))))) (js [jm 47 13,jm 48 12,jm 49 3,jq 50 (.mnx true 49 (ki 0)),ja 51 1 47 48,jp (.st 1 51 50)] [1,4,5,11,12,13] (.seq (js [jm 14 (ki 0)] [1,4,5,11,12,13,14] (.bl 2 (.seq (js [jm 52 14,jm 53 4,jb 54 .lss .i 52 53] [1,4,5,11,12,13,14,54] (.cond 54 .skip (.exit 2))) (.seq (.block 3 (js [jq 57 (.bsl 1 []),jm 58 13,jq 59 (.app 1 8 false 57 58),jm 15 59] [1,4,5,11,12,13,14,15] (js [jm 16 kf] [1,4,5,11,12,13,14,15,16] (.seq (js [jf 60 0 5,jk 61 60,jq 62 (.len false 61),jm 63 (ki 0)] [1,4,5,11,12,13,14,15,16,61,62,63] (.bl 4 (js [jb 64 .lss .i 63 62] [1,4,5,11,12,13,14,15,16,61,62,63,64] (.seq (.cond 64 .skip (.exit 4)) (.seq (.block 5 (js [jm 65 63,ja 66 6 61 63,jl 67 6 66,jq 18 (.alloc [.r (.v (.string .empty)),.r (.v (.string .empty)),.r (.v (.int .i64 0)),.r (.v (.int .i64 0)),.r (.v (.int .i64 0)),.r (.v (.int .i64 0))]),jm 17 65,jp (.st 6 18 67)] [1,4,5,11,12,13,14,15,16,17,18,61,62,63] (js [jm 68 11,jf 69 0 18,jk 70 69,jc 71 84 [68,70],jm 19 71] [1,4,5,11,12,13,14,15,16,17,18,19,61,62,63] (js [jm 72 11,jf 73 1 18,jk 74 73,jc 75 84 [72,74],jm 20 75] [1,4,5,11,12,13,14,15,16,17,19,20,61,62,63] (.seq (js [jm 76 13,jm 77 19,ja 78 1 76 77,jk 79 78,jb 80 .lss .i 79 (ki 0)] [1,4,5,11,12,13,14,15,16,17,19,20,61,62,63,80] (.cond 80 (.exit 5) .skip)) (.seq (.reg (some [[],[],[],[],[],[3,4],[3,4,5],[],[],[7,8],[2,3,4,5,6,7,8,9],[0,1,2,3,4,5,6,7,8,9,10],[0,1,2,3,4,5,6,7,8,9,10,11],[0,1,2,3,4,5,6,7,8,9,10,11,12],[0,1,2,3,4,5,6,7,8,9,10,11,12],[],[0,1,2,3,4,5,6,7,8,9,10,11,12,13,15],[0,1,2,3,4,5,6,7,8,9,10,11,12,13,14,15,16]]) [jm 82 1,jm 83 17,jl 84 3 5,jm 85 13,jm 86 19,ja 87 1 85 86,jk 88 87,jm 89 19,jm 90 12,jb 91 .eql .i 89 90,jc 92 149 [84,88,91],jq 93 (.callv true 82 [83,92]),jm 81 93,jq 94 (.ext 0 81),
 jq 95 (.ext 1 81),jq 21 (.alloc [.r (.v (.int .i64 0)),.r (.v (.int .i64 0))]),jp (.st 2 21 94),jm 22 95] [1,4,5,11,12,13,14,15,16,20,21,22,61,62,63]) (.seq (.reg (some [[],[0],[0,1],[0,1],[0,1,2,3],[0,1,2,3,4],[0,1,2,3,4,5],[0,1,2,3,4,5,6],[0,1,2,3,4,5,6,7],[0,1,2,3,4,5,6,7],[0,1,2,3,4,5,6,7,8,9],[0,1,2,3,4,5,6,7],[0,1,2,3,4,5,6,7],[0,1,2,3,4,5,6,7,11,12],[0,1,2,3,4,5,6,7,11,12,13],[0,1,2,3,4,5,6,7,8,9,10,11,12,13,14],[0,1,2,3,4,5,6,7,8,9,10,11,12,13,14,15],[0,1,2,3,4,5,6,7,8,9,10,11,12,13,14,15,16]]) [jm 96 22,jm 97 96,ju 98 97 (.mv 15),ju 99 97 (.mv 20),ju 100 97 (.ia 1 98 99),ju 101 97 (.ld false 1 100),ju 102 97 (.bin .lss .i 101 (ki 0)),ju 103 97 (.mv 102),jv 104 103 (.ld true 3 5),jv 105 103 (.ld true 2 21),jv 106 103 (.call 86 true [104,105]),jv 107 103 (.mv 15),jv 108 103 (.mv 20),jv 109 103 (.ia 1 107 108),jv 110 103 (.ld false 1 109),jv 111 103 (.bin .lss .i 106 110),ju 112 97 (.pick 103 kt 111),jq 113 (.pick 97 112 kf)] [1,4,5,11,12,13,14,15,16,20,21,61,62,63,113]) (.cond 113 (js [jm 114 15,jm 115 20,jl 116 3 5,jl 117 2 21,jc 118 86 [116,117],ja 119 1 114 115,jp (.st 1 119 118)] [1,4,5,11,12,13,14,15,61,62,63] (.reg none [jm 16 kt] [1,4,5,11,12,13,14,15,16,61,62,63])) .skip)))))))) (.reg none [jb 120 .add .i 63 (ki 1),jm 63 120] [1,4,5,11,12,13,14,15,16,61,62,63])))))) (js [jm 121 15,jm 13 121] [1,4,5,11,12,13,14,16] (js [jm 122 16,jq 123 (.not 122)] [1,4,5,11,12,13,14,123] (.cond 123 (.exit 2) .skip))))))) (.reg none [jm 55 14,jb 56 .add .i 55 (ki 1),jm 14 56] [1,4,5,11,12,13,14]))))) (js [jm 124 13,jm 10 124] [10] .ret))))))))
def Fk:List RV:=[.t 10]
def be (g:G) (t:TE) (a0:Network) (a1:Fd) (w2:List Int) (x1:List ByteArray) (x2:Int):List Leg→Int→List Int→Bool→Option ((List Int)×Bool)
 |[],v4,w3,v3=>
  some (w3,v3)
 |z3::ls3,v4,w3,v3=>
  lP (co g t x1 z3.From) fun x4=>
  lP (co g t x1 z3.To) fun x5=>
  gd (((0:Int)≤x4∧x4<(((g.dlen (t.d_I64 w2)):Nat):Int)))<|
  gt w2 (g.nat x4) fun x6=>
  br (g.lt x6 0)
  (
   be g t a0 a1 w2 x1 x2 ls3 (g.wrap .i64 (g.add v4 1)) w3 v3)
  (
   gd (((0:Int)≤x4∧x4<(((g.dlen (t.d_I64 w2)):Nat):Int)))<|
   lP (fC g t a0 x6 (g.eq x4 x2)) fun x7=>
   cl (callFd g t a1 v4 x7) fun x8=>
   br x8.2
   (
    gd (((0:Int)≤x5∧x5<(((g.dlen (t.d_I64 w3)):Nat):Int)))<|
    gt w3 (g.nat x5) fun x9=>
    br (g.lt x9 0)
    (
     cl (iL g t a0 (Trip.mk x8.1.Leg x8.1.Day)) fun x10=>
     gd (((0:Int)≤x5∧x5<(((g.dlen (t.d_I64 w3)):Nat):Int)))<|
     lP (List.set w3 (g.nat x5) x10) fun(l7:List Int)=>
     be g t a0 a1 w2 x1 x2 ls3 (g.wrap .i64 (g.add v4 1)) l7 true)
    (
     cl (iL g t a0 (Trip.mk x8.1.Leg x8.1.Day)) fun x11=>
     gd (((0:Int)≤x5∧x5<(((g.dlen (t.d_I64 w3)):Nat):Int)))<|
     br (g.lt x11 x9)
     (
      cl (iL g t a0 (Trip.mk x8.1.Leg x8.1.Day)) fun x12=>
      gd (((0:Int)≤x5∧x5<(((g.dlen (t.d_I64 w3)):Nat):Int)))<|
      lP (List.set w3 (g.nat x5) x12) fun(l8:List Int)=>
      be g t a0 a1 w2 x1 x2 ls3 (g.wrap .i64 (g.add v4 1)) l8 true)
     (
      be g t a0 a1 w2 x1 x2 ls3 (g.wrap .i64 (g.add v4 1)) w3 v3)))
   (
    be g t a0 a1 w2 x1 x2 ls3 (g.wrap .i64 (g.add v4 1)) w3 v3))
def cM (g:G) (t:TE) (a0:Network) (a1:Fd) (x1:List ByteArray) (x2:Int):Nat→List Int→Option (List Int)
 |0,w2=>
  some w2
 |n2+1,w2=>
  lP ([]) fun(l5:List Int)=>
  gd (((l5.length+w2.length)*8≤70368744177664))<|
  lP (l5++w2) fun(l6:List Int)=>
  cl (be g t a0 a1 w2 x1 x2 a0.Legs 0 l6 false) fun y2=>
  br y2.2
  (
   cM g t a0 a1 x1 x2 n2 y2.1)
  (
   some y2.1)
def cJ (g:G) (t:TE):Nat→List Int→Option (List Int)
 |0,w1=>
  some w1
 |n1+1,w1=>
  lP ([(-1)]) fun(l2:List Int)=>
  gd (((w1.length+l2.length)*8≤70368744177664))<|
  lP (w1++l2) fun(l3:List Int)=>
  cJ g t n1 l3
def gj (g:G) (t:TE) (a0:Network) (a1:Fd) (a2:ByteArray) (a3:Int) (a4:Int):Option (List Int):=
 cl (ek g t a0) fun x1=>
 lP (co g t x1 a2) fun x2=>
 br (g.lt x2 0)
 (
  some [])
 (
  br (g.lt 100000 a3)
  (
   some [])
  (
   br (g.lt a4 0)
   (
    some [])
   (
    lP ([]) fun(l1:List Int)=>
    gd (((g.int (g.dlen (t.d_S x1)))≤9223372036854775807))<|
    cl (cJ g t (aW 0 (g.int (g.dlen (t.d_S x1)))) l1) fun y1=>
    gd (((0:Int)≤x2∧x2<(((g.dlen (t.d_I64 y1)):Nat):Int)))<|
    gt y1 (g.nat x2) fun x3=>
    lP (List.set y1 (g.nat x2) (g.imax a3 0)) fun(l4:List Int)=>
    gd ((a4≤9223372036854775807))<|
    cl (cM g t a0 a1 x1 x2 (aW 0 a4) l4) fun y3=>
    some y3)))
theorem ng {g:G} {t:TE} {a0:Network} {a1:Fd} {a2:ByteArray} {a3:Int} {a4:Int} {r:List Int} (hg:g=G.real) (ht:t=TE.real) (h:gj g t a0 a1 a2 a3 a4=some r):Fn Tryz.prog 109 [.g (Network.rs t a0),.c (t.r_Fd a1),.c (.v (.string a2)),.c (.v (.int .i64 a3)),.c (.v (.int .i64 a4))] (.c (.o 1 (t.d_I64 r))):=by
 obtain⟨X,hX⟩:=aJ (.c (.o 1 (t.d_I64 r)):X);rw[←hX];refine aE (rvs:=Fk) (j:=Ft) Tryz.func109 rfl (by kernel_rfl) (nb rfl) (by kernel_rfl) ac ?_;intro g2 F hg2 hF;obtain rfl:g2=g:=hg2.unique.trans hg.symm;clear hg2;obtain⟨wrap,lt,_,_,_,_,_,_,_,_,_,_,int,add,_,_,_,_,_,_,_,llen,_,_,dlen,_,_,_,rd,_,_,_,_,_,_,_,_,_,_,_,_,imax⟩:=g2;obtain⟨_,_,_,_,r_Leg,_,r_I64,d_I64,_,_,_,_,r_S,d_S,_,_,r_Fd⟩:=t
 obtain⟨a0_Legs,a0_Off,a0_Change⟩:=a0;have hnil_I64:d_I64 []=[]:=lf ht;unfold gj at h;try dsimp only at h
 cbv;obtain⟨x1,hx1,h⟩:=ae h;try dsimp only at h
 refine ACall.mk _ _ rfl (hF _ _ _ (gP hg ht hx1)) (.inl rfl) (nb rfl) ?_;cbv;refine AStep.mk (eU ht (ap hg ht _)) ?_;cbv;obtain⟨x2,hx2,h⟩:=ag h;try dsimp only at h
 refine ACall.mk _ _ (by rw[show rd (d_S x1) 0 (dlen (d_S x1))=r_S x1 from gL hg ht (ap hg ht _)];try rfl) (hF _ _ _ (c9 hg ht hx2)) (.inr rfl) (nb rfl) ?_
 cbv
 cases hb1:(lt x2 0)
 rotate_left
 ·rw[ab hb1] at h;cbv;iterate 2 try(rw[hb1];cbv)
  obtain rfl:=Option.some.inj h;exact ARet.mk trivial (by rw[hX];first|rfl|(simp only[Trip.ds,Scan.ds,Leg.ds,Network.ds,Booking.ds,Belief.ds,Cur.ds,Spot.ds,Know.ds,hnil_I64];try rfl))
 rw[aa hb1] at h;cbv;iterate 2 try(rw[hb1];cbv)
 cases hb2:(lt 100000 a3)
 rotate_left
 ·rw[ab hb2] at h;cbv;iterate 2 try(rw[hb2];cbv)
  obtain rfl:=Option.some.inj h;exact ARet.mk trivial (by rw[hX];first|rfl|(simp only[Trip.ds,Scan.ds,Leg.ds,Network.ds,Booking.ds,Belief.ds,Cur.ds,Spot.ds,Know.ds,hnil_I64];try rfl))
 rw[aa hb2] at h;cbv;iterate 2 try(rw[hb2];cbv)
 cases hb3:(lt a4 0)
 rotate_left
 ·rw[ab hb3] at h;cbv;obtain rfl:=Option.some.inj h;exact ARet.mk trivial (by rw[hX];first|rfl|(simp only[Trip.ds,Scan.ds,Leg.ds,Network.ds,Booking.ds,Belief.ds,Cur.ds,Spot.ds,Know.ds,hnil_I64];try rfl))
 rw[aa hb3] at h;cbv;obtain⟨l1,hl1,h⟩:=ag h;try dsimp only at h
 refine ANew.mk (d_I64 l1) (dlen (d_I64 l1)) (by rw[←hl1];exact dR hg ht []) (by rw[←hl1];exact dj hg ht []) ?_;cbv;obtain⟨hB1,h⟩:=ak h;obtain⟨o1,ho1,h⟩:=ae h;try dsimp only at h
 try rw[hg] at ho1
 try rw[ht] at ho1
 refine ABL.mk {p:Nat×Int×List Int//p.1=aW p.2.1 (int (dlen (d_S x1)))∧0≤p.2.1∧cJ G.real TE.real p.1 p.2.2=some o1} (fun⟨⟨n1,v1,w1⟩,_⟩=>({sl:=[(1,.c (.r (r_Fd a1))),(3,.c (.r (.v (.int .i64 a3)))),(4,.c (.r (.v (.int .i64 a4)))),(5,.c (.p 0 3 0 0)),(11,.c (.f 1 1 0 (dlen (d_S x1)))),(12,.c (.r (.v (.int .i64 x2)))),(13,.c (.f 2 1 0 (dlen (d_I64 w1)))),(40,.c (.r (.v (.int .i64 (int (dlen (d_S x1))))))),(41,.c (.r (.v (.int .i64 v1))))],tab:=[(0,some (.foc 3 [] [.r (.s 6 (r_Leg a0_Legs)),.r (.s 1 (r_I64 a0_Off)),.r (.v (.int .i64 a0_Change))] [])),(1,some (.arr 1 (d_S x1))),(2,some (.arr 1 (d_I64 w1)))]}:St)) 3 (fun p=>p.1.1) ⟨(aW 0 (int (dlen (d_S x1))),0,l1),rfl,Int.le_refl _,ho1⟩ (List Int) (fun y1=>({sl:=[(1,.c (.r (r_Fd a1))),(3,.c (.r (.v (.int .i64 a3)))),(4,.c (.r (.v (.int .i64 a4)))),(5,.c (.p 0 3 0 0)),(11,.c (.f 1 1 0 (dlen (d_S x1)))),(12,.c (.r (.v (.int .i64 x2)))),(13,.c (.f 2 1 0 (dlen (d_I64 y1))))],tab:=[(0,some (.foc 3 [] [.r (.s 6 (r_Leg a0_Legs)),.r (.s 1 (r_I64 a0_Off)),.r (.v (.int .i64 a0_Change))] [])),(1,some (.arr 1 (d_S x1))),(2,some (.arr 1 (d_I64 y1)))]}:St)) 3 (fun y=>o1=y) ?_ ?_ ?_
 ·refine Wk.of [(0,some 0),(1,some 48),(2,some 304)] rfl rfl ?_ ?_
  ·cbv;all_goals exact⟨⟨_,rfl,rfl⟩,⟨_,rfl,rfl⟩,⟨_,rfl,rfl⟩,⟨_,rfl,rfl⟩,⟨_,rfl,rfl⟩,⟨_,rfl,rfl⟩,⟨_,rfl,rfl⟩,⟨_,rfl,rfl⟩,⟨_,rfl,rfl⟩,trivial⟩
  cbv;all_goals exact⟨⟨_,rfl,_,rfl,rfl,rfl,rfl,trivial⟩,⟨_,rfl,rfl⟩,⟨_,rfl,rfl⟩,trivial⟩
 ·rintro⟨⟨n1,v1,w1⟩,hn1,hi1,h_1⟩ hq1;try dsimp only at hn1 hi1 h_1
  clear hq1;cbv;rcases n1 with _|n1
  ·have hb4:lt v1 (int (dlen (d_S x1)))=false:=eG hg hn1;rw[cJ] at h_1;try rw[←hg] at h_1
   try rw[←ht] at h_1
   try dsimp only at h_1
   rw[hb4];cbv;refine⟨w1,Wk.of [(0,some 0),(1,some 1),(2,some 2)] rfl rfl ?_ ?_,(Option.some.inj h_1).symm⟩
   ·cbv;all_goals exact⟨⟨_,rfl,rfl⟩,⟨_,rfl,rfl⟩,⟨_,rfl,rfl⟩,⟨_,rfl,rfl⟩,⟨_,rfl,rfl⟩,⟨_,rfl,rfl⟩,⟨_,rfl,rfl⟩,trivial⟩
   cbv;all_goals exact⟨⟨_,rfl,_,rfl,rfl,rfl,rfl,trivial⟩,⟨_,rfl,rfl⟩,⟨_,rfl,rfl⟩,trivial⟩
  have hb4:lt v1 (int (dlen (d_S x1)))=true:=fM hg hn1;have hl1:=jI hn1;have hs1:=gU hg hn1 hi1 hB1 (by decide);rw[cJ] at h_1;try rw[←hg] at h_1
  try rw[←ht] at h_1
  try dsimp only at h_1
  rw[hb4];cbv;obtain⟨l2,hl2,h_1⟩:=ag h_1;try dsimp only at h_1
  refine ANew.mk (d_I64 l2) (dlen (d_I64 l2)) (by rw[←hl2];exact dR hg ht [(-1)]) (by rw[←hl2];exact dj hg ht [(-1)]) ?_;cbv;obtain⟨hc1,h_1⟩:=ak h_1;refine AStep.mk ⟨⟨rfl,(am hg ht _)⟩,(ig hg ht (am hg ht _) rfl hc1)⟩ ?_;cbv;obtain⟨l3,hl3,h_1⟩:=ag h_1;try dsimp only at h_1
  refine ANew.mk (d_I64 l3) (dlen (d_I64 l3)) (by rw[←hl3];exact na hg ht (am hg ht _) rfl) (by rw[←hl3];exact kE hg ht (am hg ht _) rfl) ?_;cbv;try rw[hg] at h_1
  try rw[ht] at h_1
  refine⟨⟨(n1,(wrap .i64 (add v1 1)),l3),hs1.1,hs1.2,h_1⟩,Wk.of [(0,some 0),(1,some 1),(2,some 51)] rfl rfl ?_ ?_,Nat.lt_succ_self _⟩
  ·cbv;all_goals exact⟨⟨_,rfl,rfl⟩,⟨_,rfl,rfl⟩,⟨_,rfl,rfl⟩,⟨_,rfl,rfl⟩,⟨_,rfl,rfl⟩,⟨_,rfl,rfl⟩,⟨_,rfl,rfl⟩,⟨_,rfl,rfl⟩,⟨_,rfl,rfl⟩,trivial⟩
  cbv;all_goals exact⟨⟨_,rfl,_,rfl,rfl,rfl,rfl,trivial⟩,⟨_,rfl,rfl⟩,⟨_,rfl,rfl⟩,trivial⟩
 rintro y1 hy1;replace hy1:=hy1.symm;subst hy1;try dsimp only[lr,lrL,lrp,aH] at h
 cbv;obtain⟨hc2,h⟩:=ak h;refine AStep.mk hc2 ?_;cbv;obtain⟨x3,hx3,h⟩:=aV h;try dsimp only at h
 refine AGet.mk _ (bn hg ht hx3) ?_;cbv;obtain⟨l4,hl4,h⟩:=ag h;try dsimp only at h
 refine ANew.mk (d_I64 l4) _ (by rw[←hl4];exact kS hg ht _ _ (imax a3 0)) rfl ?_;have hnl4:(dlen (d_I64 y1))=(d_I64 l4).length:=(by rw[←hl4,iR ht];exact(am hg ht _));cbv;obtain⟨hB2,h⟩:=ak h;obtain⟨o2,ho2,h⟩:=ae h;try dsimp only at h
 try rw[hg] at ho2
 try rw[ht] at ho2
 refine ABL.mk {p:Nat×Int×List Int//p.1=aW p.2.1 a4∧0≤p.2.1∧cM G.real TE.real (Network.mk a0_Legs a0_Off a0_Change) a1 x1 x2 p.1 p.2.2=some o2} (fun⟨⟨n2,v2,w2⟩,_⟩=>({sl:=[(1,.c (.r (r_Fd a1))),(4,.c (.r (.v (.int .i64 a4)))),(5,.c (.p 0 3 0 0)),(11,.c (.f 1 1 0 (dlen (d_S x1)))),(12,.c (.r (.v (.int .i64 x2)))),(13,.c (.f 2 1 0 (dlen (d_I64 w2)))),(14,.c (.r (.v (.int .i64 v2))))],tab:=[(0,some (.foc 3 [] [.r (.s 6 (r_Leg a0_Legs)),.r (.s 1 (r_I64 a0_Off)),.r (.v (.int .i64 a0_Change))] [])),(1,some (.arr 1 (d_S x1))),(2,some (.arr 1 (d_I64 w2)))]}:St)) 3 (fun p=>p.1.1) ⟨(aW 0 a4,0,l4),rfl,Int.le_refl _,ho2⟩ (List Int) (fun y3=>({sl:=[(13,.c (.f 0 1 0 (dlen (d_I64 y3))))],tab:=[(0,some (.arr 1 (d_I64 y3)))]}:St)) 1 (fun y=>o2=y) ?_ ?_ ?_
 ·refine Wk.of [(0,some 0),(1,some 1),(2,some 2)] rfl rfl ?_ ?_
  ·cbv;all_goals try rw[show(dlen (d_I64 y1))=(dlen (d_I64 l4)) from(hnl4).trans (am hg ht _).symm]
   all_goals exact⟨⟨_,rfl,rfl⟩,⟨_,rfl,rfl⟩,⟨_,rfl,rfl⟩,⟨_,rfl,rfl⟩,⟨_,rfl,rfl⟩,⟨_,rfl,rfl⟩,⟨_,rfl,rfl⟩,trivial⟩
  cbv;all_goals try rw[show(dlen (d_I64 y1))=(dlen (d_I64 l4)) from(hnl4).trans (am hg ht _).symm]
  all_goals exact⟨⟨_,rfl,_,rfl,rfl,rfl,rfl,trivial⟩,⟨_,rfl,rfl⟩,⟨_,rfl,rfl⟩,trivial⟩
 ·rintro⟨⟨n2,v2,w2⟩,hn2,hi2,h_2⟩ hq2;try dsimp only at hn2 hi2 h_2
  clear hq2;cbv;rcases n2 with _|n2
  ·have hb5:lt v2 a4=false:=eG hg hn2;rw[cM] at h_2;try rw[←hg] at h_2
   try rw[←ht] at h_2
   try dsimp only at h_2
   rw[hb5];cbv;refine⟨w2,Wk.of [(0,some 2)] rfl rfl ?_ ?_,(Option.some.inj h_2).symm⟩
   ·cbv;all_goals exact⟨⟨_,rfl,rfl⟩,trivial⟩
   cbv;all_goals exact⟨⟨_,rfl,rfl⟩,trivial⟩
  have hb5:lt v2 a4=true:=fM hg hn2;have hl2:=jI hn2;have hs2:=gU hg hn2 hi2 hB2 (by decide);rw[cM] at h_2;try rw[←hg] at h_2
  try rw[←ht] at h_2
  try dsimp only at h_2
  rw[hb5];cbv;obtain⟨l5,hl5,h_2⟩:=ag h_2;try dsimp only at h_2
  refine ANew.mk (d_I64 l5) (dlen (d_I64 l5)) (by rw[←hl5];exact dR hg ht []) (by rw[←hl5];exact dj hg ht []) ?_;cbv;obtain⟨hc9,h_2⟩:=ak h_2;refine AStep.mk ⟨(tQ hg ht (am hg ht _)),(ig hg ht (am hg ht _) (nF hg ht (am hg ht _)) hc9)⟩ ?_;cbv;obtain⟨l6,hl6,h_2⟩:=ag h_2;try dsimp only at h_2
  refine ANew.mk (d_I64 l6) (dlen (d_I64 l6)) (by rw[←hl6];exact na hg ht (am hg ht _) (nF hg ht (am hg ht _))) (by rw[←hl6];exact kE hg ht (am hg ht _) (nF hg ht (am hg ht _))) ?_;cbv;obtain⟨o3,ho3,h_2⟩:=ae h_2;try dsimp only at h_2
  try rw[hg] at ho3
  try rw[ht] at ho3
  refine ABL.mk {p:Nat×Int×(List Int)×Bool//p.1≤a0_Legs.length∧p.2.1=((p.1:Nat):Int)∧be G.real TE.real (Network.mk a0_Legs a0_Off a0_Change) a1 w2 x1 x2 (List.drop p.1 a0_Legs) p.2.1 p.2.2.1 p.2.2.2=some o3} (fun⟨⟨k3,v4,w3,v3⟩,_⟩=>({sl:=[(1,.c (.r (r_Fd a1))),(4,.c (.r (.v (.int .i64 a4)))),(5,.c (.p 0 3 0 0)),(11,.c (.f 1 1 0 (dlen (d_S x1)))),(12,.c (.r (.v (.int .i64 x2)))),(13,.c (.f 2 1 0 (dlen (d_I64 w2)))),(14,.c (.r (.v (.int .i64 v2)))),(15,.c (.f 3 1 0 (dlen (d_I64 w3)))),(16,.c (.r (.v (.bool v3)))),(61,.c (.r (.s 6 (r_Leg a0_Legs)))),(62,.c (.r (.v (.int .i64 (llen (r_Leg a0_Legs)))))),(63,.c (.r (.v (.int .i64 v4))))],tab:=[(0,some (.foc 3 [] [.r (.s 6 (r_Leg a0_Legs)),.r (.s 1 (r_I64 a0_Off)),.r (.v (.int .i64 a0_Change))] [])),(1,some (.arr 1 (d_S x1))),(2,some (.arr 1 (d_I64 w2))),(3,some (.arr 1 (d_I64 w3)))]}:St)) 4 (fun p=>a0_Legs.length-p.1.1) ⟨(0,0,l6,false),Nat.zero_le _,rfl,ho3⟩ ((List Int)×Bool) (fun⟨y2_1,y2_2⟩=>({sl:=[(1,.c (.r (r_Fd a1))),(4,.c (.r (.v (.int .i64 a4)))),(5,.c (.p 0 3 0 0)),(11,.c (.f 1 1 0 (dlen (d_S x1)))),(12,.c (.r (.v (.int .i64 x2)))),(14,.c (.r (.v (.int .i64 v2)))),(15,.c (.f 2 1 0 (dlen (d_I64 y2_1)))),(16,.c (.r (.v (.bool y2_2))))],tab:=[(0,some (.foc 3 [] [.r (.s 6 (r_Leg a0_Legs)),.r (.s 1 (r_I64 a0_Off)),.r (.v (.int .i64 a0_Change))] [])),(1,some (.arr 1 (d_S x1))),(2,some (.arr 1 (d_I64 y2_1)))]}:St)) 3 (fun y=>o3=y) ?_ ?_ ?_
  ·refine Wk.of [(0,some 0),(1,some 1),(2,some 2),(3,some 83)] rfl rfl ?_ ?_
   ·cbv;all_goals exact⟨⟨_,rfl,rfl⟩,⟨_,rfl,rfl⟩,⟨_,rfl,rfl⟩,⟨_,rfl,rfl⟩,⟨_,rfl,rfl⟩,⟨_,rfl,rfl⟩,⟨_,rfl,rfl⟩,⟨_,rfl,rfl⟩,⟨_,rfl,rfl⟩,⟨_,rfl,rfl⟩,⟨_,rfl,rfl⟩,⟨_,rfl,rfl⟩,trivial⟩
   cbv;all_goals exact⟨⟨_,rfl,_,rfl,rfl,rfl,rfl,trivial⟩,⟨_,rfl,rfl⟩,⟨_,rfl,rfl⟩,⟨_,rfl,rfl⟩,trivial⟩
  ·rintro⟨⟨k3,v4,w3,v3⟩,hk3,hi3,h_3⟩ hq3;have hm3:=(hq3.1 61 _ _ rfl);try dsimp only at hk3 hi3 h_3
   clear hq3;cbv
   by_cases hc3_:k3<a0_Legs.length
   ·have hb6:lt v4 (llen (r_Leg a0_Legs))=true:=dW hg ht hi3 hc3_;have hs3:=gk hg ht hi3 hc3_ hm3;obtain⟨z3,hz3⟩:=av hc3_;rw[aq hz3] at h_3;rw[be] at h_3;obtain⟨z3_From,z3_To,z3_Start,z3_Takes,z3_Days,z3_Room⟩:=z3;try rw[←hg] at h_3
    try rw[←ht] at h_3
    try dsimp only at h_3
    rw[hb6];cbv;refine AStep.mk (d8 hi3) ?_;cbv;refine AGet.mk _ (dU hg ht hi3 hz3) ?_;cbv;refine AStep.mk (eU ht (ap hg ht _)) ?_;cbv;obtain⟨x4,hx4,h_3⟩:=ag h_3;try dsimp only at h_3
    refine ACall.mk _ _ (by rw[show rd (d_S x1) 0 (dlen (d_S x1))=r_S x1 from gL hg ht (ap hg ht _)];try rfl) (hF _ _ _ (c9 hg ht hx4)) (.inr rfl) (nb rfl) ?_
    cbv;refine AStep.mk (eU ht (ap hg ht _)) ?_;cbv;obtain⟨x5,hx5,h_3⟩:=ag h_3;try dsimp only at h_3
    refine ACall.mk _ _ (by rw[show rd (d_S x1) 0 (dlen (d_S x1))=r_S x1 from gL hg ht (ap hg ht _)];try rfl) (hF _ _ _ (c9 hg ht hx5)) (.inr rfl) (nb rfl) ?_
    cbv;obtain⟨hc3,h_3⟩:=ak h_3;refine AStep.mk hc3 ?_;cbv;obtain⟨x6,hx6,h_3⟩:=aV h_3;try dsimp only at h_3
    refine AGet.mk _ (bn hg ht hx6) ?_;cbv
    cases hb7:(lt x6 0)
    rotate_left
    ·rw[ab hb7] at h_3;cbv;try rw[hg] at h_3
     try rw[ht] at h_3
     refine⟨⟨(k3+1,(wrap .i64 (add v4 1)),w3,v3),hc3_,hs3,h_3⟩,Wk.of [(0,some 0),(1,some 1),(2,some 2),(3,some 3)] rfl rfl ?_ ?_,aB hc3_⟩
     ·cbv;all_goals exact⟨⟨_,rfl,rfl⟩,⟨_,rfl,rfl⟩,⟨_,rfl,rfl⟩,⟨_,rfl,rfl⟩,⟨_,rfl,rfl⟩,⟨_,rfl,rfl⟩,⟨_,rfl,rfl⟩,⟨_,rfl,rfl⟩,⟨_,rfl,rfl⟩,⟨_,rfl,rfl⟩,⟨_,rfl,rfl⟩,⟨_,rfl,rfl⟩,trivial⟩
     cbv;all_goals exact⟨⟨_,rfl,_,rfl,rfl,rfl,rfl,trivial⟩,⟨_,rfl,rfl⟩,⟨_,rfl,rfl⟩,⟨_,rfl,rfl⟩,trivial⟩
    rw[aa hb7] at h_3;cbv;obtain⟨hc4,h_3⟩:=ak h_3;refine AStep.mk hc4 ?_;cbv;refine AGet.mk _ (bn hg ht hx6) ?_;cbv;obtain⟨x7,hx7,h_3⟩:=ag h_3;try dsimp only at h_3
    refine ACall.mk _ _ rfl (hF _ _ _ (oN hg ht hx7)) (.inl rfl) (nb rfl) ?_;cbv;obtain⟨x8,hx8,h_3⟩:=ae h_3;obtain⟨⟨x8_1_Leg,x8_1_Day⟩,x8_2⟩:=x8;try dsimp only at h_3
    obtain⟨f_,bs_,hr_,hc_⟩:=uh hg ht hx8;refine ACallV.mk f_ bs_ _ _ hr_ rfl (hF _ _ _ hc_) (.inl rfl) (nb rfl) ?_;clear hr_ hc_;cbv;have hb8:x8_2=true∨x8_2=false:=by cases x8_2<;>simp
    rcases hb8 with hb8|hb8
    ·rw[ab hb8] at h_3;have hK_:=h_3;subst hb8;have h_3:=hK_;clear hK_;cbv;iterate 2 try(rw[hb8];cbv)
     obtain⟨hc5,h_3⟩:=ak h_3;refine AStep.mk hc5 ?_;cbv;try(rw[hb8];cbv)
     obtain⟨x9,hx9,h_3⟩:=aV h_3;try dsimp only at h_3
     refine AGet.mk _ (bn hg ht hx9) ?_;cbv;iterate 2 try(rw[hb8];cbv)
     cases hb9:(lt x9 0)
     rotate_left
     ·rw[ab hb9] at h_3;cbv;iterate 7 try(rw[hb9];cbv)
      try(rw[hb8];cbv)
      try(rw[hb9];cbv)
      try(rw[hb8];cbv)
      obtain⟨x10,hx10,h_3⟩:=ae h_3;try dsimp only at h_3
      refine ACall.mk _ _ rfl (hF _ _ _ (jy hg ht hx10)) (.inl rfl) (nb rfl) ?_;cbv;obtain⟨hc6,h_3⟩:=ak h_3;refine AStep.mk hc6 ?_;cbv;refine AGet.mk _ (bn hg ht hx9) ?_;cbv;obtain⟨l7,hl7,h_3⟩:=ag h_3;try dsimp only at h_3
      refine ANew.mk (d_I64 l7) _ (by rw[←hl7];exact kS hg ht _ _ x10) rfl ?_;have hnl7:(dlen (d_I64 w3))=(d_I64 l7).length:=(by rw[←hl7,iR ht];exact(am hg ht _));cbv;try rw[hg] at h_3
      try rw[ht] at h_3
      refine⟨⟨(k3+1,(wrap .i64 (add v4 1)),l7,true),hc3_,hs3,h_3⟩,Wk.of [(0,some 0),(1,some 1),(2,some 2),(3,some 3)] rfl rfl ?_ ?_,aB hc3_⟩
      ·cbv;all_goals try rw[show(dlen (d_I64 w3))=(dlen (d_I64 l7)) from(hnl7).trans (am hg ht _).symm]
       all_goals exact⟨⟨_,rfl,rfl⟩,⟨_,rfl,rfl⟩,⟨_,rfl,rfl⟩,⟨_,rfl,rfl⟩,⟨_,rfl,rfl⟩,⟨_,rfl,rfl⟩,⟨_,rfl,rfl⟩,⟨_,rfl,rfl⟩,⟨_,rfl,rfl⟩,⟨_,rfl,rfl⟩,⟨_,rfl,rfl⟩,⟨_,rfl,rfl⟩,trivial⟩
      cbv;all_goals try rw[show(dlen (d_I64 w3))=(dlen (d_I64 l7)) from(hnl7).trans (am hg ht _).symm]
      all_goals exact⟨⟨_,rfl,_,rfl,rfl,rfl,rfl,trivial⟩,⟨_,rfl,rfl⟩,⟨_,rfl,rfl⟩,⟨_,rfl,rfl⟩,trivial⟩
     rw[aa hb9] at h_3;cbv;iterate 2 try(rw[hb9];cbv)
     obtain⟨x11,hx11,h_3⟩:=ae h_3;try dsimp only at h_3
     refine ACall.mk _ _ rfl (hF _ _ _ (jy hg ht hx11)) (.inl rfl) (nb rfl) ?_;cbv;iterate 3 try(rw[hb9];cbv)
     obtain⟨hc7,h_3⟩:=ak h_3;refine AStep.mk hc7 ?_;cbv;try(rw[hb9];cbv)
     refine AGet.mk _ (bn hg ht hx9) ?_;cbv;try(rw[hb9];cbv)
     try(rw[hb8];cbv)
     try(rw[hb9];cbv)
     try(rw[hb8];cbv)
     cases hb10:(lt x11 x9)
     ·rw[aa hb10] at h_3;cbv;try rw[hg] at h_3
      try rw[ht] at h_3
      refine⟨⟨(k3+1,(wrap .i64 (add v4 1)),w3,v3),hc3_,hs3,h_3⟩,Wk.of [(0,some 0),(1,some 1),(2,some 2),(3,some 3)] rfl rfl ?_ ?_,aB hc3_⟩
      ·cbv;all_goals exact⟨⟨_,rfl,rfl⟩,⟨_,rfl,rfl⟩,⟨_,rfl,rfl⟩,⟨_,rfl,rfl⟩,⟨_,rfl,rfl⟩,⟨_,rfl,rfl⟩,⟨_,rfl,rfl⟩,⟨_,rfl,rfl⟩,⟨_,rfl,rfl⟩,⟨_,rfl,rfl⟩,⟨_,rfl,rfl⟩,⟨_,rfl,rfl⟩,trivial⟩
      cbv;all_goals exact⟨⟨_,rfl,_,rfl,rfl,rfl,rfl,trivial⟩,⟨_,rfl,rfl⟩,⟨_,rfl,rfl⟩,⟨_,rfl,rfl⟩,trivial⟩
     rw[ab hb10] at h_3;cbv;obtain⟨x12,hx12,h_3⟩:=ae h_3;try dsimp only at h_3
     refine ACall.mk _ _ rfl (hF _ _ _ (jy hg ht hx12)) (.inl rfl) (nb rfl) ?_;cbv;obtain⟨hc8,h_3⟩:=ak h_3;refine AStep.mk hc8 ?_;cbv;refine AGet.mk _ (bn hg ht hx9) ?_;cbv;obtain⟨l8,hl8,h_3⟩:=ag h_3;try dsimp only at h_3
     refine ANew.mk (d_I64 l8) _ (by rw[←hl8];exact kS hg ht _ _ x12) rfl ?_;have hnl8:(dlen (d_I64 w3))=(d_I64 l8).length:=(by rw[←hl8,iR ht];exact(am hg ht _));cbv;try rw[hg] at h_3
     try rw[ht] at h_3
     refine⟨⟨(k3+1,(wrap .i64 (add v4 1)),l8,true),hc3_,hs3,h_3⟩,Wk.of [(0,some 0),(1,some 1),(2,some 2),(3,some 3)] rfl rfl ?_ ?_,aB hc3_⟩
     ·cbv;all_goals try rw[show(dlen (d_I64 w3))=(dlen (d_I64 l8)) from(hnl8).trans (am hg ht _).symm]
      all_goals exact⟨⟨_,rfl,rfl⟩,⟨_,rfl,rfl⟩,⟨_,rfl,rfl⟩,⟨_,rfl,rfl⟩,⟨_,rfl,rfl⟩,⟨_,rfl,rfl⟩,⟨_,rfl,rfl⟩,⟨_,rfl,rfl⟩,⟨_,rfl,rfl⟩,⟨_,rfl,rfl⟩,⟨_,rfl,rfl⟩,⟨_,rfl,rfl⟩,trivial⟩
     cbv;all_goals try rw[show(dlen (d_I64 w3))=(dlen (d_I64 l8)) from(hnl8).trans (am hg ht _).symm]
     all_goals exact⟨⟨_,rfl,_,rfl,rfl,rfl,rfl,trivial⟩,⟨_,rfl,rfl⟩,⟨_,rfl,rfl⟩,⟨_,rfl,rfl⟩,trivial⟩
    rw[aa hb8] at h_3;have hK_:=h_3;subst hb8;have h_3:=hK_;clear hK_;cbv;iterate 7 try(rw[hb8];cbv)
    try rw[hg] at h_3
    try rw[ht] at h_3
    refine⟨⟨(k3+1,(wrap .i64 (add v4 1)),w3,v3),hc3_,hs3,h_3⟩,Wk.of [(0,some 0),(1,some 1),(2,some 2),(3,some 3)] rfl rfl ?_ ?_,aB hc3_⟩
    ·cbv;all_goals exact⟨⟨_,rfl,rfl⟩,⟨_,rfl,rfl⟩,⟨_,rfl,rfl⟩,⟨_,rfl,rfl⟩,⟨_,rfl,rfl⟩,⟨_,rfl,rfl⟩,⟨_,rfl,rfl⟩,⟨_,rfl,rfl⟩,⟨_,rfl,rfl⟩,⟨_,rfl,rfl⟩,⟨_,rfl,rfl⟩,⟨_,rfl,rfl⟩,trivial⟩
    cbv;all_goals exact⟨⟨_,rfl,_,rfl,rfl,rfl,rfl,trivial⟩,⟨_,rfl,rfl⟩,⟨_,rfl,rfl⟩,⟨_,rfl,rfl⟩,trivial⟩
   have hb6:lt v4 (llen (r_Leg a0_Legs))=false:=dn hg ht hi3 hc3_;rw[List.drop_of_length_le (Nat.le_of_not_lt hc3_)] at h_3;rw[be] at h_3;try rw[←hg] at h_3
   try rw[←ht] at h_3
   try dsimp only at h_3
   rw[hb6];cbv;refine⟨(w3,v3),Wk.of [(0,some 0),(1,some 1),(2,some 3)] rfl rfl ?_ ?_,(Option.some.inj h_3).symm⟩
   ·cbv;all_goals exact⟨⟨_,rfl,rfl⟩,⟨_,rfl,rfl⟩,⟨_,rfl,rfl⟩,⟨_,rfl,rfl⟩,⟨_,rfl,rfl⟩,⟨_,rfl,rfl⟩,⟨_,rfl,rfl⟩,⟨_,rfl,rfl⟩,trivial⟩
   cbv;all_goals exact⟨⟨_,rfl,_,rfl,rfl,rfl,rfl,trivial⟩,⟨_,rfl,rfl⟩,⟨_,rfl,rfl⟩,trivial⟩
  rintro⟨y2_1,y2_2⟩ hy3;replace hy3:=hy3.symm;subst hy3;try dsimp only[lr,lrL,lrp,aH] at h_2
  cbv
  cases hb11:y2_2
  ·rw[aa hb11] at h_2;cbv;refine⟨y2_1,Wk.of [(0,some 2)] rfl rfl ?_ ?_,(Option.some.inj h_2).symm⟩
   ·cbv;all_goals exact⟨⟨_,rfl,rfl⟩,trivial⟩
   cbv;all_goals exact⟨⟨_,rfl,rfl⟩,trivial⟩
  rw[ab hb11] at h_2;cbv;try rw[hg] at h_2
  try rw[ht] at h_2
  refine⟨⟨(n2,(wrap .i64 (add v2 1)),y2_1),hs2.1,hs2.2,h_2⟩,Wk.of [(0,some 0),(1,some 1),(2,some 2)] rfl rfl ?_ ?_,Nat.lt_succ_self _⟩
  ·cbv;all_goals exact⟨⟨_,rfl,rfl⟩,⟨_,rfl,rfl⟩,⟨_,rfl,rfl⟩,⟨_,rfl,rfl⟩,⟨_,rfl,rfl⟩,⟨_,rfl,rfl⟩,⟨_,rfl,rfl⟩,trivial⟩
  cbv;all_goals exact⟨⟨_,rfl,_,rfl,rfl,rfl,rfl,trivial⟩,⟨_,rfl,rfl⟩,⟨_,rfl,rfl⟩,trivial⟩
 rintro y3 hy2;replace hy2:=hy2.symm;subst hy2;try dsimp only[lr,lrL,lrp,aH] at h
 cbv;obtain rfl:=Option.some.inj h;exact ARet.mk ⟨rfl,(am hg ht _)⟩ hX.symm
def Fq:J:=js [jq 7 (.box 0),jq 14 (.alloc [.r (.v (.int .i64 0)),.r (.v (.int .i64 0))]),jm 15 kf] [1,2,3,4,5,6,7,14] (.seq (js [jf 21 0 7,jk 22 21,jq 23 (.len false 22),jm 24 (ki 0)] [1,2,3,4,5,6,7,14,22,23,24] (.bl 0 (js [jb 25 .lss .i 24 23] [1,2,3,4,5,6,7,14,22,23,24,25] (.seq (.cond 25 .skip (.exit 0)) (.seq (.block 1 (js [jm 26 24,ja 27 6 22 24,jl 28 6 27,jq 17 (.alloc [.r (.v (.string .empty)),.r (.v (.string .empty)),.r (.v (.int .i64 0)),.r (.v (.int .i64 0)),.r (.v (.int .i64 0)),.r (.v (.int .i64 0))]),jm 16 26,jp (.st 6 17 28)] [1,2,3,4,5,6,7,14,16,17,22,23,24] (js [jm 29 2,jf 30 0 17,jk 31 30,jc 32 84 [29,31],jm 18 32] [1,2,3,4,5,6,7,14,16,17,18,22,23,24] (.seq (.seq (.reg (some [[],[0],[],[],[2,3],[2,3,4],[0,1,2,3,4,5],[0,1,2,3,4,5,6],[0,1,2,3,4,5,6,7],[0,1,2,3,4,5,6,7],[0,1,2,3,4,5,6,7,8,9],[0,1,2,3,4,5,6,7,8,9,10],[0,1,2,3,4,5,6,7,8,9,10,11],[0,1,2,3,4,5,6,7,8,9,10,11,12]]) [jf 33 1 17,jk 34 33,jm 35 2,jm 36 5,ja 37 1 35 36,jk 38 37,jb 39 .neq .s 34 38,jm 40 39,jv 41 40 (.mv 3),jv 42 40 (.mv 18),jv 43 40 (.ia 1 41 42),jv 44 40 (.ld false 1 43),jv 45 40 (.bin .lss .i 44 (ki 0)),jq 46 (.pick 40 kt 45)] [1,2,3,4,5,6,7,14,16,17,18,22,23,24,46]) (.cond 46 (.exit 1) .skip)) (.seq (.reg (some [[],[],[],[],[],[3,4],[3,4,5],[],[7],[],[7,8,9],[2,3,4,5,6,7,8,9,10],[0,1,2,3,4,5,6,7,8,9,10,11],[0,1,2,3,4,5,6,7,8,9,10,11,12],[0,1,2,3,4,5,6,7,8,9,10,11,12,13],[0,1,2,3,4,5,6,7,8,9,10,11,12,13],[],[0,1,2,3,4,5,6,7,8,9,10,11,12,13,14,16],[0,1,2,3,4,5,6,7,8,9,10,11,12,13,14,15,16,17]]) [jm 48 1,jm 49 16,jl 50 3 7,jm 51 3,jm 52 18,ja 53 1 51 52,jk 54 53,jf 55 0 17,jk 56 55,jm 57 4,jb 58 .eql .s 56 57,jc 59 149 [50,54,58],jq 60 (.callv true 48 [49,59]),jm 47 60,jq 61 (.ext 0 47),jq 62 (.ext 1 47),jq 19 (.alloc [.r (.v (.int .i64 0)),.r (.v (.int .i64 0))]),jp (.st 2 19 61),jm 20 62] [1,2,3,4,5,6,7,14,19,20,22,23,24]) (js [jm 63 20,jm 64 63,ju 65 64 (.ld true 3 7),ju 66 64 (.ld true 2 19),ju 67 64 (.call 86 true [65,66]),ju 68 64 (.mv 6),ju 69 64 (.bin .eql .i 67 68),jq 70 (.pick 64 69 kf)] [1,2,3,4,5,6,7,14,19,22,23,24,70] (.cond 70 (js [jl 71 2 19,jp (.st 2 14 71),jm 15 kt] [14,15] .ret) .skip))))))) (.reg none [jb 72 .add .i 24 (ki 1),jm 24 72] [1,2,3,4,5,6,7,14,22,23,24])))))) (js [jq 73 (.bld [.r (.v (.int .i64 0)),.r (.v (.int .i64 0))] []),jp (.st 2 14 73),jm 15 kf] [14,15] .ret))
def E7:List RV:=[.c 14 true 2,.t 15]
def bJ (g:G) (t:TE) (a0:Network) (a1:Fd) (a2:List ByteArray) (a3:List Int) (a4:ByteArray) (a5:Int) (a6:Int):List Leg→Int→Option (LR (Trip×Bool) Unit)
 |[],v1=>
  some (LR.out ())
 |z1::ls1,v1=>
  lP (co g t a2 z1.From) fun x1=>
  gd (((0:Int)≤a5))<|
  gt a2 (g.nat a5) fun x2=>
  br (g.seq z1.To x2)
  (
   gd (((0:Int)≤x1))<|
   gt a3 (g.nat x1) fun x3=>
   br (g.lt x3 0)
   (
    bJ g t a0 a1 a2 a3 a4 a5 a6 ls1 (g.wrap .i64 (g.add v1 1)))
   (
    gd (((0:Int)≤x1))<|
    lP (fC g t a0 x3 (g.seq z1.From a4)) fun x4=>
    cl (callFd g t a1 v1 x4) fun x5=>
    br x5.2
    (
     cl (iL g t a0 (Trip.mk x5.1.Leg x5.1.Day)) fun x6=>
     br (g.eq x6 a6)
     (
      some (LR.ret (((Trip.mk x5.1.Leg x5.1.Day),true))))
     (
      bJ g t a0 a1 a2 a3 a4 a5 a6 ls1 (g.wrap .i64 (g.add v1 1))))
    (
     bJ g t a0 a1 a2 a3 a4 a5 a6 ls1 (g.wrap .i64 (g.add v1 1)))))
  (
   bJ g t a0 a1 a2 a3 a4 a5 a6 ls1 (g.wrap .i64 (g.add v1 1)))
def kY (g:G) (t:TE) (a0:Network) (a1:Fd) (a2:List ByteArray) (a3:List Int) (a4:ByteArray) (a5:Int) (a6:Int):Option (Trip×Bool):=
 cl (bJ g t a0 a1 a2 a3 a4 a5 a6 a0.Legs 0) fun o1=>lr o1 fun y1=>
 some (((Trip.mk 0 0),false))
theorem tP {g:G} {t:TE} {a0:Network} {a1:Fd} {a2:List ByteArray} {a3:List Int} {a4:ByteArray} {a5:Int} {a6:Int} {r:Trip×Bool} (hg:g=G.real) (ht:t=TE.real) (h:kY g t a0 a1 a2 a3 a4 a5 a6=some r):Fn Tryz.prog 110 [.g (Network.rs t a0),.c (t.r_Fd a1),.c (.s 1 (t.r_S a2)),.c (.s 1 (t.r_I64 a3)),.c (.v (.string a4)),.c (.v (.int .i64 a5)),.c (.v (.int .i64 a6))] (.u [.g (Trip.ds t r.1),.c (.r (.v (.bool r.2)))]):=by
 obtain⟨X,hX⟩:=aJ (.u [.g (Trip.ds t r.1),.c (.r (.v (.bool r.2)))]:X);rw[←hX];refine aE (rvs:=E7) (j:=Fq) Tryz.func110 rfl (by kernel_rfl) (nb rfl) (by kernel_rfl) ac ?_;intro g2 F hg2 hF;obtain rfl:g2=g:=hg2.unique.trans hg.symm;clear hg2;obtain⟨wrap,lt,_,eq,_,_,_,_,_,_,_,_,_,add,_,_,_,seq,_,_,_,llen⟩:=g2;obtain⟨_,_,_,_,r_Leg,_,r_I64,_,_,_,_,_,r_S,_,_,_,r_Fd⟩:=t
 obtain⟨a0_Legs,a0_Off,a0_Change⟩:=a0;unfold kY at h;try dsimp only at h
 cbv;obtain⟨o1,ho1,h⟩:=ae h;try dsimp only at h
 try rw[hg] at ho1
 try rw[ht] at ho1
 refine ABL.mk {p:Nat×Int//p.1≤a0_Legs.length∧p.2=((p.1:Nat):Int)∧bJ G.real TE.real (Network.mk a0_Legs a0_Off a0_Change) a1 a2 a3 a4 a5 a6 (List.drop p.1 a0_Legs) p.2=some o1} (fun⟨⟨k1,v1⟩,_⟩=>({sl:=[(1,.c (.r (r_Fd a1))),(2,.c (.r (.s 1 (r_S a2)))),(3,.c (.r (.s 1 (r_I64 a3)))),(4,.c (.r (.v (.string a4)))),(5,.c (.r (.v (.int .i64 a5)))),(6,.c (.r (.v (.int .i64 a6)))),(7,.c (.p 0 3 0 0)),(14,.c (.p 1 2 0 0)),(22,.c (.r (.s 6 (r_Leg a0_Legs)))),(23,.c (.r (.v (.int .i64 (llen (r_Leg a0_Legs)))))),(24,.c (.r (.v (.int .i64 v1))))],tab:=[(0,some (.foc 3 [] [.r (.s 6 (r_Leg a0_Legs)),.r (.s 1 (r_I64 a0_Off)),.r (.v (.int .i64 a0_Change))] [])),(1,some (.foc 2 [] [.r (.v (.int .i64 0)),.r (.v (.int .i64 0))] []))]}:St)) 2 (fun p=>a0_Legs.length-p.1.1) ⟨(0,0),Nat.zero_le _,rfl,ho1⟩ (Unit) (fun _=>({sl:=[(14,.c (.p 0 2 0 0))],tab:=[(0,some (.foc 2 [] [.r (.v (.int .i64 0)),.r (.v (.int .i64 0))] []))]}:St)) 1 (fun y=>o1=LR.out y) ?_ ?_ ?_
 ·refine Wk.of [(0,some 0),(1,some 16)] rfl rfl ?_ ?_
  ·cbv;all_goals exact⟨⟨_,rfl,rfl⟩,⟨_,rfl,rfl⟩,⟨_,rfl,rfl⟩,⟨_,rfl,rfl⟩,⟨_,rfl,rfl⟩,⟨_,rfl,rfl⟩,⟨_,rfl,rfl⟩,⟨_,rfl,rfl⟩,⟨_,rfl,rfl⟩,⟨_,rfl,rfl⟩,⟨_,rfl,rfl⟩,trivial⟩
  cbv;all_goals exact⟨⟨_,rfl,_,rfl,rfl,rfl,rfl,trivial⟩,⟨_,rfl,_,rfl,rfl,rfl,trivial⟩,trivial⟩
 ·rintro⟨⟨k1,v1⟩,hk1,hi1,h_1⟩ hq1;have hm1:=(hq1.1 22 _ _ rfl);try dsimp only at hk1 hi1 h_1
  clear hq1;cbv
  by_cases hc1_:k1<a0_Legs.length
  ·have hb1:lt v1 (llen (r_Leg a0_Legs))=true:=dW hg ht hi1 hc1_;have hs1:=gk hg ht hi1 hc1_ hm1;obtain⟨z1,hz1⟩:=av hc1_;rw[aq hz1] at h_1;rw[bJ] at h_1;obtain⟨z1_From,z1_To,z1_Start,z1_Takes,z1_Days,z1_Room⟩:=z1;try rw[←hg] at h_1
   try rw[←ht] at h_1
   try dsimp only at h_1
   rw[hb1];cbv;refine AStep.mk (d8 hi1) ?_;cbv;refine AGet.mk _ (dU hg ht hi1 hz1) ?_;cbv;obtain⟨x1,hx1,h_1⟩:=ag h_1;try dsimp only at h_1
   refine ACall.mk _ _ rfl (hF _ _ _ (c9 hg ht hx1)) (.inl rfl) (nb rfl) ?_;cbv;obtain⟨hc1,h_1⟩:=ak h_1;refine AStep.mk hc1 ?_;cbv;obtain⟨x2,hx2,h_1⟩:=aV h_1;try dsimp only at h_1
   refine AGet.mk _ (o8 hg ht hx2) ?_;cbv
   cases hb2:(seq z1_To x2)
   ·rw[aa hb2] at h_1;cbv;iterate 5 try(rw[hb2];cbv)
    try rw[hg] at h_1
    try rw[ht] at h_1
    refine⟨⟨(k1+1,(wrap .i64 (add v1 1))),hc1_,hs1,h_1⟩,Wk.of [(0,some 0),(1,some 1)] rfl rfl ?_ ?_,aB hc1_⟩
    ·cbv;all_goals exact⟨⟨_,rfl,rfl⟩,⟨_,rfl,rfl⟩,⟨_,rfl,rfl⟩,⟨_,rfl,rfl⟩,⟨_,rfl,rfl⟩,⟨_,rfl,rfl⟩,⟨_,rfl,rfl⟩,⟨_,rfl,rfl⟩,⟨_,rfl,rfl⟩,⟨_,rfl,rfl⟩,⟨_,rfl,rfl⟩,trivial⟩
    cbv;all_goals exact⟨⟨_,rfl,_,rfl,rfl,rfl,rfl,trivial⟩,⟨_,rfl,_,rfl,rfl,rfl,trivial⟩,trivial⟩
   rw[ab hb2] at h_1;cbv;iterate 2 try(rw[hb2];cbv)
   obtain⟨hc2,h_1⟩:=ak h_1;refine AStep.mk hc2 ?_;cbv;obtain⟨x3,hx3,h_1⟩:=aV h_1;try dsimp only at h_1
   refine AGet.mk _ (d7 hg ht hx3) ?_;cbv;iterate 3 try(rw[hb2];cbv)
   cases hb3:(lt x3 0)
   rotate_left
   ·rw[ab hb3] at h_1;cbv;try rw[hg] at h_1
    try rw[ht] at h_1
    refine⟨⟨(k1+1,(wrap .i64 (add v1 1))),hc1_,hs1,h_1⟩,Wk.of [(0,some 0),(1,some 1)] rfl rfl ?_ ?_,aB hc1_⟩
    ·cbv;all_goals exact⟨⟨_,rfl,rfl⟩,⟨_,rfl,rfl⟩,⟨_,rfl,rfl⟩,⟨_,rfl,rfl⟩,⟨_,rfl,rfl⟩,⟨_,rfl,rfl⟩,⟨_,rfl,rfl⟩,⟨_,rfl,rfl⟩,⟨_,rfl,rfl⟩,⟨_,rfl,rfl⟩,⟨_,rfl,rfl⟩,trivial⟩
    cbv;all_goals exact⟨⟨_,rfl,_,rfl,rfl,rfl,rfl,trivial⟩,⟨_,rfl,_,rfl,rfl,rfl,trivial⟩,trivial⟩
   rw[aa hb3] at h_1;cbv;obtain⟨hc3,h_1⟩:=ak h_1;refine AStep.mk hc3 ?_;cbv;refine AGet.mk _ (d7 hg ht hx3) ?_;cbv;obtain⟨x4,hx4,h_1⟩:=ag h_1;try dsimp only at h_1
   refine ACall.mk _ _ rfl (hF _ _ _ (oN hg ht hx4)) (.inl rfl) (nb rfl) ?_;cbv;obtain⟨x5,hx5,h_1⟩:=ae h_1;obtain⟨⟨x5_1_Leg,x5_1_Day⟩,x5_2⟩:=x5;try dsimp only at h_1
   obtain⟨f_,bs_,hr_,hc_⟩:=uh hg ht hx5;refine ACallV.mk f_ bs_ _ _ hr_ rfl (hF _ _ _ hc_) (.inl rfl) (nb rfl) ?_;clear hr_ hc_;cbv;have hb4:x5_2=true∨x5_2=false:=by cases x5_2<;>simp
   rcases hb4 with hb4|hb4
   ·rw[ab hb4] at h_1;have hK_:=h_1;subst hb4;have h_1:=hK_;clear hK_;cbv;iterate 2 try(rw[hb4];cbv)
    obtain⟨x6,hx6,h_1⟩:=ae h_1;try dsimp only at h_1
    refine ACall.mk _ _ rfl (hF _ _ _ (jy hg ht hx6)) (.inl rfl) (nb rfl) ?_;cbv;iterate 3 try(rw[hb4];cbv)
    cases hb5:(eq x6 a6)
    rotate_left
    ·rw[ab hb5] at h_1;cbv;obtain rfl:=Option.some.inj h_1;try dsimp only[lr,lrL,lrp,aH] at h
     obtain rfl:=Option.some.inj h;exact ARet.mk trivial hX.symm
    rw[aa hb5] at h_1;cbv;try rw[hg] at h_1
    try rw[ht] at h_1
    refine⟨⟨(k1+1,(wrap .i64 (add v1 1))),hc1_,hs1,h_1⟩,Wk.of [(0,some 0),(1,some 1)] rfl rfl ?_ ?_,aB hc1_⟩
    ·cbv;all_goals exact⟨⟨_,rfl,rfl⟩,⟨_,rfl,rfl⟩,⟨_,rfl,rfl⟩,⟨_,rfl,rfl⟩,⟨_,rfl,rfl⟩,⟨_,rfl,rfl⟩,⟨_,rfl,rfl⟩,⟨_,rfl,rfl⟩,⟨_,rfl,rfl⟩,⟨_,rfl,rfl⟩,⟨_,rfl,rfl⟩,trivial⟩
    cbv;all_goals exact⟨⟨_,rfl,_,rfl,rfl,rfl,rfl,trivial⟩,⟨_,rfl,_,rfl,rfl,rfl,trivial⟩,trivial⟩
   rw[aa hb4] at h_1;have hK_:=h_1;subst hb4;have h_1:=hK_;clear hK_;cbv;iterate 5 try(rw[hb4];cbv)
   try rw[hg] at h_1
   try rw[ht] at h_1
   refine⟨⟨(k1+1,(wrap .i64 (add v1 1))),hc1_,hs1,h_1⟩,Wk.of [(0,some 0),(1,some 1)] rfl rfl ?_ ?_,aB hc1_⟩
   ·cbv;all_goals exact⟨⟨_,rfl,rfl⟩,⟨_,rfl,rfl⟩,⟨_,rfl,rfl⟩,⟨_,rfl,rfl⟩,⟨_,rfl,rfl⟩,⟨_,rfl,rfl⟩,⟨_,rfl,rfl⟩,⟨_,rfl,rfl⟩,⟨_,rfl,rfl⟩,⟨_,rfl,rfl⟩,⟨_,rfl,rfl⟩,trivial⟩
   cbv;all_goals exact⟨⟨_,rfl,_,rfl,rfl,rfl,rfl,trivial⟩,⟨_,rfl,_,rfl,rfl,rfl,trivial⟩,trivial⟩
  have hb1:lt v1 (llen (r_Leg a0_Legs))=false:=dn hg ht hi1 hc1_;rw[List.drop_of_length_le (Nat.le_of_not_lt hc1_)] at h_1;rw[bJ] at h_1;try rw[←hg] at h_1
  try rw[←ht] at h_1
  try dsimp only at h_1
  rw[hb1];cbv;refine⟨(),Wk.of [(0,some 1)] rfl rfl ?_ ?_,(Option.some.inj h_1).symm⟩
  ·cbv;all_goals exact⟨⟨_,rfl,rfl⟩,trivial⟩
  cbv;all_goals exact⟨⟨_,rfl,_,rfl,rfl,rfl,trivial⟩,trivial⟩
 rintro _ hy1;replace hy1:=hy1.symm;subst hy1;try dsimp only[lr,lrL,lrp,aH] at h
 cbv;obtain rfl:=Option.some.inj h;exact ARet.mk trivial hX.symm
def ir55:J:=js [jq 5 (.box 0),jq 10 (.mv (.k (.c (.n 2)))),jm 11 kf] [1,2,3,4,5] (js [jl 24 3 5,jc 25 82 [24],jm 12 25] [1,2,3,4,5,12] (js [jm 26 12,jm 27 3,jc 28 84 [26,27],jm 13 28] [1,2,4,5,12,13] (js [jq 29 (.bsl 1 []),jm 14 29] [1,2,4,5,12,13,14] (.seq (js [jm 15 (ki 0)] [1,2,4,5,12,13,14,15] (.bl 0 (.seq (js [jm 30 15,jm 31 12,jq 32 (.len false 31),jb 33 .leq .i 30 32] [1,2,4,5,12,13,14,15,33] (.cond 33 .skip (.exit 0))) (.seq (.block 1 (js [jl 36 3 5,jm 37 1,jm 38 2,jm 39 4,jm 40 15,jc 41 109 [36,37,38,39,40],jm 16 41] [1,2,4,5,12,13,14,15,16] (.seq (js [jm 42 16,jq 43 (.len false 42),jb 44 .eql .i 43 (ki 0),jm 45 44,jv 46 45 (.mv 13),jv 47 45 (.bin .lss .i 46 (ki 0)),jq 48 (.pick 45 kt 47)] [1,2,4,5,12,13,14,15,16,48] (.cond 48 (js [jq 10 (.mv (.k (.c (.n 2)))),jm 11 kf] [10,11] .ret) .skip)) (.reg none [jm 49 14,jm 50 16,jq 51 (.bsl 1 [50]),jq 52 (.app 1 24 true 49 51),jm 14 52] [1,2,4,5,12,13,14,15])))) (.reg none [jm 34 15,jb 35 .add .i 34 (ki 1),jm 15 35] [1,2,4,5,12,13,14,15]))))) (.seq (.gh (.ga (.reg none [jm 53 14,jm 54 12,jq 55 (.len false 54),ja 56 1 53 55,jk 57 56,jm 58 13,ja 59 1 57 58,jk 60 59,jm 17 60] [1,2,5,12,13,14,17]))) (.seq (js [jm 61 17,jb 62 .lss .i 61 (ki 0)] [1,2,5,12,13,14,17,62] (.cond 62 (js [jq 10 (.mv (.k (.c (.n 2)))),jm 11 kf] [10,11] .ret) .skip)) (js [jm 18 (ki 0)] [1,2,5,12,13,14,17,18] (.seq (.bl 2 (.seq (.seq (.gh (.ga (.reg none [jm 63 14,jm 64 18,ja 65 1 63 64,jk 66 65,jm 67 13,ja 68 1 66 67,jk 69 68,jm 70 17,jb 71 .neq .i 69 70] [1,2,5,12,13,14,17,18,71]))) (.cond 71 .skip (.exit 2))) (.block 3 (.reg none [jm 72 18,jb 73 .add .i 72 (ki 1),jm 18 73] [1,2,5,12,13,14,17,18])))) (js [jq 74 (.bsl 2 []),jm 19 74] [1,2,5,12,13,14,17,18,19] (.seq (.bl 4 (.seq (js [jm 75 18,jb 76 .gtr .i 75 (ki 0)] [1,2,5,12,13,14,17,18,19,76] (.cond 76 .skip (.exit 4))) (.seq (.block 5 (.seq (.gh (.ga (.reg (some [[],[],[],[],[],[4],[3,4,5],[3,4,5,6],[],[],[],[0,1,2,3,4,5,6,7,8,9,10],[0,1,2,3,4,5,6,7,8,9,10,11],[0,1,2,3,4,5,6,7,8,9,10,11,12],[0,1,2,3,4,5,6,7,8,9,10,11,12],[],[0,1,2,3,4,5,6,7,8,9,10,11,12,13,15],[0,1,2,3,4,5,6,7,8,9,10,11,12,13,14,15,16]]) [jl 80 3 5,jm 81 1,jm 82 12,jm 83 14,jm 84 18,jb 85 .sub .i 84 (ki 1),ja 86 1 83 85,jk 87 86,jm 88 2,jm 89 13,jm 90 17,jc 91 110 [80,81,82,87,88,89,90],jm 79 91,jq 92 (.ext 0 79),jq 93 (.ext 1 79),jq 20 (.alloc [.r (.v (.int .i64 0)),.r (.v (.int .i64 0))]),jp (.st 2 20 92),jm 21 93] [1,2,5,12,14,18,19,20,21]))) (.seq (js [jm 94 21,jq 95 (.not 94)] [1,2,5,12,14,18,19,20,95] (.cond 95 (js [jq 10 (.mv (.k (.c (.n 2)))),jm 11 kf] [10,11] .ret) .skip)) (js [jm 96 19,jl 97 2 20,jq 98 (.bsl 2 [97]),jq 99 (.app 2 16 true 96 98),jm 19 99] [1,2,5,12,14,18,19,
 20] (js [jm 100 12,jf 101 0 5,jk 102 101,jf 103 0 20,jk 104 103,ja 105 6 102 104,jf 106 0 105,jk 107 106,jc 108 84 [100,107],jm 13 108] [1,2,5,12,13,14,18,19] (.gh (.ga (.reg none [jm 109 14,jm 110 18,jb 111 .sub .i 110 (ki 1),ja 112 1 109 111,jk 113 112,jm 114 13,ja 115 1 113 114,jk 116 115,jm 17 116] [1,2,5,12,13,14,17,18,19])))))))) (.reg none [jm 77 18,jb 78 .sub .i 77 (ki 1),jm 18 78] [1,2,5,12,13,14,17,18,19])))) (js [jq 117 (.bsl 2 []),jm 22 117] [19,22] (.seq (js [jm 118 19,jq 119 (.len false 118),jb 120 .sub .i 119 (ki 1),jm 23 120] [19,22,23] (.bl 6 (.seq (js [jm 121 23,jb 122 .geq .i 121 (ki 0)] [19,22,23,122] (.cond 122 .skip (.exit 6))) (.seq (.block 7 (.reg none [jm 125 22,jm 126 19,jm 127 23,ja 128 2 126 127,jl 129 2 128,jq 130 (.bsl 2 [129]),jq 131 (.app 2 16 true 125 130),jm 22 131] [19,22,23])) (.reg none [jm 123 23,jb 124 .sub .i 123 (ki 1),jm 23 124] [19,22,23]))))) (js [jm 132 22,jm 10 132,jm 11 kt] [10,11] .ret)))))))))))))
def rv55:List RV:=[.t 10,.t 11]
def eu (g:G) (t:TE) (y3:List Trip):Nat→List Trip→Int→Option (List Trip)
 |0,_,_=>none
 |n4+1,w3,v6=>
  br (g.le 0 v6)
  (
   gd (((0:Int)≤v6∧v6<(((g.dlen (t.d_Trip y3)):Nat):Int)))<|
   gt y3 (g.nat v6) fun x13=>
   lP ([x13]) fun(l8:List Trip)=>
   gd (((w3.length+l8.length)*16≤70368744177664))<|
   lP (w3++l8) fun(l9:List Trip)=>
   eu g t y3 n4 l9 (g.wrap .i64 (g.sub v6 1)))
  (
   some w3)
def ei (g:G) (t:TE) (a0:Network) (a1:Fd) (a2:ByteArray) (x1:List ByteArray) (y1:List (List Int)):Nat→Int→Int→Int→List Trip→Option (LR ((List Trip)×Bool) (List Trip))
 |0,_,_,_,_=>none
 |n3+1,v3,v4,v5,w2=>
  br (g.lt 0 v5)
  (
   gt y1 (g.nat (g.wrap .i64 (g.sub v5 1))) fun x8=>
   gd (((0:Int)≤(g.wrap .i64 (g.sub v5 1))∧(g.wrap .i64 (g.sub v5 1))<(((g.dlen (t.d_LI64 y1)):Nat):Int)))<|
   cl (kY g t a0 a1 x1 x8 a2 v3 v4) fun x9=>
   br x9.2
   (
    lP ([(Trip.mk x9.1.Leg x9.1.Day)]) fun(l5:List Trip)=>
    gd (((w2.length+l5.length)*16≤70368744177664))<|
    lP (w2++l5) fun(l6:List Trip)=>
    gd (((0:Int)≤x9.1.Leg))<|
    gt a0.Legs (g.nat x9.1.Leg) fun x10=>
    lP (co g t x1 x10.From) fun x11=>
    gd (((0:Int)≤(g.wrap .i64 (g.sub v5 1))∧(g.wrap .i64 (g.sub v5 1))<(((g.dlen (t.d_LI64 y1)):Nat):Int)))<|
    gd (((0:Int)≤x11∧x11<(((g.dlen (t.d_I64 x8)):Nat):Int)))<|
    gt x8 (g.nat x11) fun x12=>
    ei g t a0 a1 a2 x1 y1 n3 x11 x12 (g.wrap .i64 (g.sub v5 1)) l6)
   (
    some (LR.ret (([],false)))))
  (
   some (LR.out w2))
def fk (g:G) (t:TE) (x2:Int) (x5:Int) (y1:List (List Int)):Nat→Int→Option Int
 |0,_=>none
 |n2+1,v2=>
  gt y1 (g.nat v2) fun x6=>
  gd (((0:Int)≤v2∧v2<(((g.dlen (t.d_LI64 y1)):Nat):Int)))<|
  gd (((0:Int)≤x2∧x2<(((g.dlen (t.d_I64 x6)):Nat):Int)))<|
  gt x6 (g.nat x2) fun x7=>
  br (g.eq x7 x5)
  (
   some v2)
  (
   fk g t x2 x5 y1 n2 (g.wrap .i64 (g.add v2 1)))
def dm (g:G) (t:TE) (a0:Network) (a1:Fd) (a2:ByteArray) (a4:Int) (x2:Int):Nat→Int→List (List Int)→Option (LR ((List Trip)×Bool) (List (List Int)))
 |0,v1,w1=>
  some (LR.out w1)
 |n1+1,v1,w1=>
  cl (gj g t a0 a1 a2 a4 v1) fun x3=>
  br (g.eq (g.int (g.dlen (t.d_I64 x3))) 0)
  (
   some (LR.ret (([],false))))
  (
   br (g.lt x2 0)
   (
    some (LR.ret (([],false))))
   (
    lP ([x3]) fun(l2:List (List Int))=>
    gd (((w1.length+l2.length)*24≤70368744177664))<|
    lP (w1++l2) fun(l3:List (List Int))=>
    dm g t a0 a1 a2 a4 x2 n1 (g.wrap .i64 (g.add v1 1)) l3))
def oY (g:G) (t:TE) (a0:Network) (a1:Fd) (a2:ByteArray) (a3:ByteArray) (a4:Int):Option ((List Trip)×Bool):=
 cl (ek g t a0) fun x1=>
 lP (co g t x1 a3) fun x2=>
 lP ([]) fun(l1:List (List Int))=>
 gd (((g.int (g.dlen (t.d_S x1)))≤4611686018427387904))<|
 cl (dm g t a0 a1 a2 a4 x2 (cX 0 (g.int (g.dlen (t.d_S x1)))) 0 l1) fun o1=>lr o1 fun y1=>
 gt y1 (g.nat (g.int (g.dlen (t.d_S x1)))) fun x4=>
 gd (((0:Int)≤(g.int (g.dlen (t.d_S x1)))∧(g.int (g.dlen (t.d_S x1)))<(((g.dlen (t.d_LI64 y1)):Nat):Int)))<|
 gd (((0:Int)≤x2∧x2<(((g.dlen (t.d_I64 x4)):Nat):Int)))<|
 gt x4 (g.nat x2) fun x5=>
 br (g.lt x5 0)
 (
  some (([],false)))
 (
  cl (fk g t x2 x5 y1 1000000000 0) fun y2=>
  lP ([]) fun(l4:List Trip)=>
  cl (ei g t a0 a1 a2 x1 y1 1000000000 x2 x5 y2 l4) fun o3=>lr o3 fun y3=>
  lP ([]) fun(l7:List Trip)=>
  cl (eu g t y3 1000000000 l7 (g.wrap .i64 (g.sub (g.int (g.dlen (t.d_Trip y3))) 1))) fun y4=>
  some ((y4,true)))
theorem yj {g:G} {t:TE} {a0:Network} {a1:Fd} {a2:ByteArray} {a3:ByteArray} {a4:Int} {r:(List Trip)×Bool} (hg:g=G.real) (ht:t=TE.real) (h:oY g t a0 a1 a2 a3 a4=some r):Fn Tryz.prog 55 [.g (Network.rs t a0),.c (t.r_Fd a1),.c (.v (.string a2)),.c (.v (.string a3)),.c (.v (.int .i64 a4))] (.u [.c (.o 2 (t.d_Trip r.1)),.c (.r (.v (.bool r.2)))]):=by
 obtain⟨X,hX⟩:=aJ (.u [.c (.o 2 (t.d_Trip r.1)),.c (.r (.v (.bool r.2)))]:X);rw[←hX];refine aE (rvs:=rv55) (j:=ir55) Tryz.func55 rfl (by kernel_rfl) (nb rfl) (by kernel_rfl) ac ?_;intro g2 F hg2 hF;obtain rfl:g2=g:=hg2.unique.trans hg.symm;clear hg2;obtain⟨wrap,lt,le,eq,_,_,_,_,_,_,_,nat,int,add,sub,_,_,_,_,_,_,_,_,_,dlen,_,_,_,rd⟩:=g2;obtain⟨_,d_U8,_,d_Scan,r_Leg,d_Leg,r_I64,d_I64,_,d_Trip,_,d_Booking,r_S,d_S,_,d_LI64,r_Fd⟩:=t
 obtain⟨a0_Legs,a0_Off,a0_Change⟩:=a0;have hnil_U8:d_U8 []=[]:=AX ht;have hnil_Scan:d_Scan []=[]:=wk ht;have hnil_Leg:d_Leg []=[]:=sr ht;have hnil_I64:d_I64 []=[]:=lf ht;have hnil_Trip:d_Trip []=[]:=qI ht;have hnil_Booking:d_Booking []=[]:=re ht;have hnil_S:d_S []=[]:=B3 ht;have hnil_LI64:d_LI64 []=[]:=wF ht;unfold oY at h;try dsimp only at h
 cbv;obtain⟨x1,hx1,h⟩:=ae h;try dsimp only at h
 refine ACall.mk _ _ rfl (hF _ _ _ (gP hg ht hx1)) (.inl rfl) (nb rfl) ?_;cbv;refine AStep.mk (eU ht (ap hg ht _)) ?_;cbv;obtain⟨x2,hx2,h⟩:=ag h;try dsimp only at h
 refine ACall.mk _ _ (by rw[show rd (d_S x1) 0 (dlen (d_S x1))=r_S x1 from gL hg ht (ap hg ht _)];try rfl) (hF _ _ _ (c9 hg ht hx2)) (.inr rfl) (nb rfl) ?_
 cbv;obtain⟨l1,hl1,h⟩:=ag h;try dsimp only at h
 refine ANew.mk (d_LI64 l1) (dlen (d_LI64 l1)) (by rw[←hl1];exact uJ hg ht []) (by rw[←hl1];exact sg hg ht []) ?_;cbv;obtain⟨hB1,h⟩:=ak h;obtain⟨o1,ho1,h⟩:=ae h;try dsimp only at h
 try rw[hg] at ho1
 try rw[ht] at ho1
 refine ABL.mk {p:Nat×Int×List (List Int)//p.1=cX p.2.1 (int (dlen (d_S x1)))∧0≤p.2.1∧dm G.real TE.real (Network.mk a0_Legs a0_Off a0_Change) a1 a2 a4 x2 p.1 p.2.1 p.2.2=some o1} (fun⟨⟨n1,v1,w1⟩,_⟩=>({sl:=[(1,.c (.r (r_Fd a1))),(2,.c (.r (.v (.string a2)))),(4,.c (.r (.v (.int .i64 a4)))),(5,.c (.p 0 3 0 0)),(12,.c (.f 1 1 0 (dlen (d_S x1)))),(13,.c (.r (.v (.int .i64 x2)))),(14,.c (.f 2 1 0 (dlen (d_LI64 w1)))),(15,.c (.r (.v (.int .i64 v1))))],tab:=[(0,some (.foc 3 [] [.r (.s 6 (r_Leg a0_Legs)),.r (.s 1 (r_I64 a0_Off)),.r (.v (.int .i64 a0_Change))] [])),(1,some (.arr 1 (d_S x1))),(2,some (.arr 1 (d_LI64 w1)))]}:St)) 3 (fun p=>p.1.1) ⟨(cX 0 (int (dlen (d_S x1))),0,l1),rfl,Int.le_refl _,ho1⟩ (List (List Int)) (fun y1=>({sl:=[(1,.c (.r (r_Fd a1))),(2,.c (.r (.v (.string a2)))),(5,.c (.p 0 3 0 0)),(12,.c (.f 1 1 0 (dlen (d_S x1)))),(13,.c (.r (.v (.int .i64 x2)))),(14,.c (.f 2 1 0 (dlen (d_LI64 y1))))],tab:=[(0,some (.foc 3 [] [.r (.s 6 (r_Leg a0_Legs)),.r (.s 1 (r_I64 a0_Off)),.r (.v (.int .i64 a0_Change))] [])),(1,some (.arr 1 (d_S x1))),(2,some (.arr 1 (d_LI64 y1)))]}:St)) 3 (fun y=>o1=LR.out y) ?_ ?_ ?_
 ·refine Wk.of [(0,some 0),(1,some 64),(2,some 160)] rfl rfl ?_ ?_
  ·cbv;all_goals exact⟨⟨_,rfl,rfl⟩,⟨_,rfl,rfl⟩,⟨_,rfl,rfl⟩,⟨_,rfl,rfl⟩,⟨_,rfl,rfl⟩,⟨_,rfl,rfl⟩,⟨_,rfl,rfl⟩,⟨_,rfl,rfl⟩,trivial⟩
  cbv;all_goals exact⟨⟨_,rfl,_,rfl,rfl,rfl,rfl,trivial⟩,⟨_,rfl,rfl⟩,⟨_,rfl,rfl⟩,trivial⟩
 ·rintro⟨⟨n1,v1,w1⟩,hn1,hi1,h_1⟩ hq1;try dsimp only at hn1 hi1 h_1
  clear hq1;cbv;rcases n1 with _|n1
  ·have hb1:le v1 (int (dlen (d_S x1)))=false:=jA hg hn1;rw[dm] at h_1;try rw[←hg] at h_1
   try rw[←ht] at h_1
   try dsimp only at h_1
   rw[hb1];cbv;refine⟨w1,Wk.of [(0,some 0),(1,some 1),(2,some 2)] rfl rfl ?_ ?_,(Option.some.inj h_1).symm⟩
   ·cbv;all_goals exact⟨⟨_,rfl,rfl⟩,⟨_,rfl,rfl⟩,⟨_,rfl,rfl⟩,⟨_,rfl,rfl⟩,⟨_,rfl,rfl⟩,⟨_,rfl,rfl⟩,trivial⟩
   cbv;all_goals exact⟨⟨_,rfl,_,rfl,rfl,rfl,rfl,trivial⟩,⟨_,rfl,rfl⟩,⟨_,rfl,rfl⟩,trivial⟩
  have hb1:le v1 (int (dlen (d_S x1)))=true:=kz hg hn1;have hl1:=qr hn1;have hs1:=nr hg hn1 hi1 hB1 (by decide);rw[dm] at h_1;try rw[←hg] at h_1
  try rw[←ht] at h_1
  try dsimp only at h_1
  rw[hb1];cbv;obtain⟨x3,hx3,h_1⟩:=ae h_1;try dsimp only at h_1
  refine ACall.mk _ _ rfl (hF _ _ _ (ng hg ht hx3)) (.inl rfl) (nb rfl) ?_;cbv
  cases hb2:(eq (int (dlen (d_I64 x3))) 0)
  rotate_left
  ·rw[ab hb2] at h_1;cbv;iterate 2 try(rw[hb2];cbv)
   obtain rfl:=Option.some.inj h_1;try dsimp only[lr,lrL,lrp,aH] at h
   obtain rfl:=Option.some.inj h;exact ARet.mk trivial (by rw[hX];first|rfl|(simp only[Trip.ds,Scan.ds,Leg.ds,Network.ds,Booking.ds,Belief.ds,Cur.ds,Spot.ds,Know.ds,hnil_Trip];try rfl))
  rw[aa hb2] at h_1;cbv;iterate 2 try(rw[hb2];cbv)
  cases hb3:(lt x2 0)
  rotate_left
  ·rw[ab hb3] at h_1;cbv;obtain rfl:=Option.some.inj h_1;try dsimp only[lr,lrL,lrp,aH] at h
   obtain rfl:=Option.some.inj h;exact ARet.mk trivial (by rw[hX];first|rfl|(simp only[Trip.ds,Scan.ds,Leg.ds,Network.ds,Booking.ds,Belief.ds,Cur.ds,Spot.ds,Know.ds,hnil_Trip];try rfl))
  rw[aa hb3] at h_1;cbv;refine AStep.mk ⟨rfl,(am hg ht _)⟩ ?_;cbv;obtain⟨l2,hl2,h_1⟩:=ag h_1;try dsimp only at h_1
  refine ANew.mk (d_LI64 l2) (dlen (d_LI64 l2)) (by rw[←hl2];have e:=uJ hg ht [x3];dsimp only[List.map,LI64.ds] at e;(try simp only[hnil_U8,hnil_Scan,hnil_Leg,hnil_I64,hnil_Trip,hnil_Booking,hnil_S,hnil_LI64] at e);exact e) (by rw[←hl2];exact sg hg ht [x3]) ?_;cbv;obtain⟨hc1,h_1⟩:=ak h_1;refine AStep.mk ⟨⟨rfl,(lh hg ht _)⟩,(uX hg ht (lh hg ht _) rfl hc1)⟩ ?_;cbv;obtain⟨l3,hl3,h_1⟩:=ag h_1;try dsimp only at h_1
  refine ANew.mk (d_LI64 l3) (dlen (d_LI64 l3)) (by rw[←hl3];exact Az hg ht (lh hg ht _) rfl) (by rw[←hl3];exact zA hg ht (lh hg ht _) rfl) ?_;cbv;try rw[hg] at h_1
  try rw[ht] at h_1
  refine⟨⟨(n1,(wrap .i64 (add v1 1)),l3),hs1.1,hs1.2,h_1⟩,Wk.of [(0,some 0),(1,some 1),(2,some 339)] rfl rfl ?_ ?_,Nat.lt_succ_self _⟩
  ·cbv;all_goals exact⟨⟨_,rfl,rfl⟩,⟨_,rfl,rfl⟩,⟨_,rfl,rfl⟩,⟨_,rfl,rfl⟩,⟨_,rfl,rfl⟩,⟨_,rfl,rfl⟩,⟨_,rfl,rfl⟩,⟨_,rfl,rfl⟩,trivial⟩
  cbv;all_goals exact⟨⟨_,rfl,_,rfl,rfl,rfl,rfl,trivial⟩,⟨_,rfl,rfl⟩,⟨_,rfl,rfl⟩,trivial⟩
 rintro y1 hy1;replace hy1:=hy1.symm;subst hy1;try dsimp only[lr,lrL,lrp,aH] at h
 cbv;obtain⟨x4,hx4,h⟩:=aV h;try dsimp only at h
 refine AGh.opn 2 1 (nat (int (dlen (d_S x1)))) (d_LI64 y1) _ rfl (jC hg ht hx4) rfl ?_;cbv;refine AGh.nil ?_;cbv;obtain⟨hc2,h⟩:=ak h;refine AStep.mk hc2 ?_;cbv;refine AStep.mk rfl ?_;cbv;obtain⟨hc3,h⟩:=ak h;refine AStep.mk hc3 ?_;cbv;obtain⟨x5,hx5,h⟩:=aV h;try dsimp only at h
 refine AGet.mk _ (bn hg ht hx5) ?_;cbv;refine AGh.cls 2 1 (nat (int (dlen (d_S x1)))) (d_LI64 y1) _ _ _ _ (d_LI64 y1) rfl rfl ⟨rfl,(am hg ht _)⟩ (j9 hg ht hx4) ?_;cbv;refine AGh.nil ?_;cbv
 cases hb4:(lt x5 0)
 rotate_left
 ·rw[ab hb4] at h;cbv;obtain rfl:=Option.some.inj h;exact ARet.mk trivial (by rw[hX];first|rfl|(simp only[Trip.ds,Scan.ds,Leg.ds,Network.ds,Booking.ds,Belief.ds,Cur.ds,Spot.ds,Know.ds,hnil_Trip];try rfl))
 rw[aa hb4] at h;cbv;obtain⟨o2,ho2,h⟩:=ae h;try dsimp only at h
 try rw[hg] at ho2
 try rw[ht] at ho2
 refine ABL.mk {p:Nat×Int//fk G.real TE.real x2 x5 y1 p.1 p.2=some o2} (fun⟨⟨n2,v2⟩,_⟩=>({sl:=[(1,.c (.r (r_Fd a1))),(2,.c (.r (.v (.string a2)))),(5,.c (.p 0 3 0 0)),(12,.c (.f 1 1 0 (dlen (d_S x1)))),(13,.c (.r (.v (.int .i64 x2)))),(14,.c (.f 2 1 0 (dlen (d_LI64 y1)))),(17,.c (.r (.v (.int .i64 x5)))),(18,.c (.r (.v (.int .i64 v2))))],tab:=[(0,some (.foc 3 [] [.r (.s 6 (r_Leg a0_Legs)),.r (.s 1 (r_I64 a0_Off)),.r (.v (.int .i64 a0_Change))] [])),(1,some (.arr 1 (d_S x1))),(2,some (.arr 1 (d_LI64 y1)))]}:St)) 3 (fun p=>p.1.1) ⟨(1000000000,0),ho2⟩ (Int) (fun y2=>({sl:=[(1,.c (.r (r_Fd a1))),(2,.c (.r (.v (.string a2)))),(5,.c (.p 0 3 0 0)),(12,.c (.f 1 1 0 (dlen (d_S x1)))),(13,.c (.r (.v (.int .i64 x2)))),(14,.c (.f 2 1 0 (dlen (d_LI64 y1)))),(17,.c (.r (.v (.int .i64 x5)))),(18,.c (.r (.v (.int .i64 y2))))],tab:=[(0,some (.foc 3 [] [.r (.s 6 (r_Leg a0_Legs)),.r (.s 1 (r_I64 a0_Off)),.r (.v (.int .i64 a0_Change))] [])),(1,some (.arr 1 (d_S x1))),(2,some (.arr 1 (d_LI64 y1)))]}:St)) 3 (fun y=>o2=y) ?_ ?_ ?_
 ·refine Wk.of [(0,some 0),(1,some 1),(2,some 2)] rfl rfl ?_ ?_
  ·cbv;all_goals exact⟨⟨_,rfl,rfl⟩,⟨_,rfl,rfl⟩,⟨_,rfl,rfl⟩,⟨_,rfl,rfl⟩,⟨_,rfl,rfl⟩,⟨_,rfl,rfl⟩,⟨_,rfl,rfl⟩,⟨_,rfl,rfl⟩,trivial⟩
  cbv;all_goals exact⟨⟨_,rfl,_,rfl,rfl,rfl,rfl,trivial⟩,⟨_,rfl,rfl⟩,⟨_,rfl,rfl⟩,trivial⟩
 ·rintro⟨⟨n2,v2⟩,h_2⟩ hq2;try dsimp only at h_2
  clear hq2;rcases n2 with _|n2
  ·rw[fk] at h_2;cases h_2
  rw[fk] at h_2;try rw[←hg] at h_2
  try rw[←ht] at h_2
  try dsimp only at h_2
  cbv;obtain⟨x6,hx6,h_2⟩:=aV h_2;try dsimp only at h_2
  refine AGh.opn 2 1 (nat v2) (d_LI64 y1) _ rfl (jC hg ht hx6) rfl ?_;cbv;refine AGh.nil ?_;cbv;obtain⟨hc4,h_2⟩:=ak h_2;refine AStep.mk hc4 ?_;cbv;refine AStep.mk rfl ?_;cbv;obtain⟨hc5,h_2⟩:=ak h_2;refine AStep.mk hc5 ?_;cbv;obtain⟨x7,hx7,h_2⟩:=aV h_2;try dsimp only at h_2
  refine AGet.mk _ (bn hg ht hx7) ?_;cbv;refine AGh.cls 2 1 (nat v2) (d_LI64 y1) _ _ _ _ (d_LI64 y1) rfl rfl ⟨rfl,(am hg ht _)⟩ (j9 hg ht hx6) ?_;cbv;refine AGh.nil ?_;cbv
  cases hb5:(eq x7 x5)
  rotate_left
  ·rw[ab hb5] at h_2;cbv;refine⟨v2,Wk.of [(0,some 0),(1,some 1),(2,some 2)] rfl rfl ?_ ?_,(Option.some.inj h_2).symm⟩
   ·cbv;all_goals exact⟨⟨_,rfl,rfl⟩,⟨_,rfl,rfl⟩,⟨_,rfl,rfl⟩,⟨_,rfl,rfl⟩,⟨_,rfl,rfl⟩,⟨_,rfl,rfl⟩,⟨_,rfl,rfl⟩,⟨_,rfl,rfl⟩,trivial⟩
   cbv;all_goals exact⟨⟨_,rfl,_,rfl,rfl,rfl,rfl,trivial⟩,⟨_,rfl,rfl⟩,⟨_,rfl,rfl⟩,trivial⟩
  rw[aa hb5] at h_2;cbv;try rw[hg] at h_2
  try rw[ht] at h_2
  refine⟨⟨(n2,(wrap .i64 (add v2 1))),h_2⟩,Wk.of [(0,some 0),(1,some 1),(2,some 2)] rfl rfl ?_ ?_,Nat.lt_succ_self _⟩
  ·cbv;all_goals exact⟨⟨_,rfl,rfl⟩,⟨_,rfl,rfl⟩,⟨_,rfl,rfl⟩,⟨_,rfl,rfl⟩,⟨_,rfl,rfl⟩,⟨_,rfl,rfl⟩,⟨_,rfl,rfl⟩,⟨_,rfl,rfl⟩,trivial⟩
  cbv;all_goals exact⟨⟨_,rfl,_,rfl,rfl,rfl,rfl,trivial⟩,⟨_,rfl,rfl⟩,⟨_,rfl,rfl⟩,trivial⟩
 rintro y2 hy2;replace hy2:=hy2.symm;subst hy2;try dsimp only[lr,lrL,lrp,aH] at h
 cbv;obtain⟨l4,hl4,h⟩:=ag h;try dsimp only at h
 refine ANew.mk (d_Trip l4) (dlen (d_Trip l4)) (by rw[←hl4];exact ed hg ht []) (by rw[←hl4];exact dH hg ht []) ?_;cbv;obtain⟨o3,ho3,h⟩:=ae h;try dsimp only at h
 try rw[hg] at ho3
 try rw[ht] at ho3
 refine ABL.mk {p:Nat×Int×Int×Int×List Trip//ei G.real TE.real (Network.mk a0_Legs a0_Off a0_Change) a1 a2 x1 y1 p.1 p.2.1 p.2.2.1 p.2.2.2.1 p.2.2.2.2=some o3} (fun⟨⟨n3,v3,v4,v5,w2⟩,_⟩=>({sl:=[(1,.c (.r (r_Fd a1))),(2,.c (.r (.v (.string a2)))),(5,.c (.p 0 3 0 0)),(12,.c (.f 1 1 0 (dlen (d_S x1)))),(13,.c (.r (.v (.int .i64 v3)))),(14,.c (.f 2 1 0 (dlen (d_LI64 y1)))),(17,.c (.r (.v (.int .i64 v4)))),(18,.c (.r (.v (.int .i64 v5)))),(19,.c (.f 3 2 0 (dlen (d_Trip w2))))],tab:=[(0,some (.foc 3 [] [.r (.s 6 (r_Leg a0_Legs)),.r (.s 1 (r_I64 a0_Off)),.r (.v (.int .i64 a0_Change))] [])),(1,some (.arr 1 (d_S x1))),(2,some (.arr 1 (d_LI64 y1))),(3,some (.arr 2 (d_Trip w2)))]}:St)) 4 (fun p=>p.1.1) ⟨(1000000000,x2,x5,y2,l4),ho3⟩ (List Trip) (fun y3=>({sl:=[(19,.c (.f 0 2 0 (dlen (d_Trip y3))))],tab:=[(0,some (.arr 2 (d_Trip y3)))]}:St)) 1 (fun y=>o3=LR.out y) ?_ ?_ ?_
 ·refine Wk.of [(0,some 0),(1,some 1),(2,some 2),(3,some 3)] rfl rfl ?_ ?_
  ·cbv;all_goals exact⟨⟨_,rfl,rfl⟩,⟨_,rfl,rfl⟩,⟨_,rfl,rfl⟩,⟨_,rfl,rfl⟩,⟨_,rfl,rfl⟩,⟨_,rfl,rfl⟩,⟨_,rfl,rfl⟩,⟨_,rfl,rfl⟩,⟨_,rfl,rfl⟩,trivial⟩
  cbv;all_goals exact⟨⟨_,rfl,_,rfl,rfl,rfl,rfl,trivial⟩,⟨_,rfl,rfl⟩,⟨_,rfl,rfl⟩,⟨_,rfl,rfl⟩,trivial⟩
 ·rintro⟨⟨n3,v3,v4,v5,w2⟩,h_3⟩ hq3;try dsimp only at h_3
  clear hq3;rcases n3 with _|n3
  ·rw[ei] at h_3;cases h_3
  rw[ei] at h_3;try rw[←hg] at h_3
  try rw[←ht] at h_3
  try dsimp only at h_3
  cbv
  cases hb6:(lt 0 v5)
  ·rw[aa hb6] at h_3;cbv;refine⟨w2,Wk.of [(0,some 3)] rfl rfl ?_ ?_,(Option.some.inj h_3).symm⟩
   ·cbv;all_goals exact⟨⟨_,rfl,rfl⟩,trivial⟩
   cbv;all_goals exact⟨⟨_,rfl,rfl⟩,trivial⟩
  rw[ab hb6] at h_3;cbv;obtain⟨x8,hx8,h_3⟩:=aV h_3;try dsimp only at h_3
  refine AGh.opn 2 1 (nat (wrap .i64 (sub v5 1))) (d_LI64 y1) _ rfl (jC hg ht hx8) rfl ?_;cbv;refine AGh.nil ?_;cbv;obtain⟨hc6,h_3⟩:=ak h_3;refine AStep.mk hc6 ?_;cbv;refine AStep.mk rfl ?_;cbv;refine AStep.mk ⟨(eU ht (ap hg ht _)),(mN ht (am hg ht _))⟩ ?_;cbv;obtain⟨x9,hx9,h_3⟩:=ae h_3;obtain⟨⟨x9_1_Leg,x9_1_Day⟩,x9_2⟩:=x9;try dsimp only at h_3
  refine ACall.mk _ _ (by rw[show rd (d_S x1) 0 (dlen (d_S x1))=r_S x1 from gL hg ht (ap hg ht _),show rd (d_I64 x8) 0 (dlen (d_I64 x8))=r_I64 x8 from ph hg ht (am hg ht _)];try rfl) (hF _ _ _ (tP hg ht hx9)) (.inr (by simp only[Go.Vs.X.fresh,Go.Vs.X.freshs,fq,cr,Bool.and_self,Trip.ds])) (nb rfl) ?_
  cbv;refine AGh.cls 2 1 (nat (wrap .i64 (sub v5 1))) (d_LI64 y1) _ _ _ _ (d_LI64 y1) rfl rfl ⟨rfl,(am hg ht _)⟩ (j9 hg ht hx8) ?_;cbv;refine AGh.nil ?_;cbv;have hb7:x9_2=true∨x9_2=false:=by cases x9_2<;>simp
  rcases hb7 with hb7|hb7
  ·rw[ab hb7] at h_3;have hK_:=h_3;subst hb7;have h_3:=hK_;clear hK_;cbv;obtain⟨l5,hl5,h_3⟩:=ag h_3;try dsimp only at h_3
   refine ANew.mk (d_Trip l5) (dlen (d_Trip l5)) (by rw[←hl5];exact ed hg ht [(Trip.mk x9_1_Leg x9_1_Day)]) (by rw[←hl5];exact dH hg ht [(Trip.mk x9_1_Leg x9_1_Day)]) ?_;cbv;obtain⟨hc10,h_3⟩:=ak h_3;refine AStep.mk ⟨⟨rfl,(aw hg ht _)⟩,(gr hg ht (aw hg ht _) rfl hc10)⟩ ?_;cbv;obtain⟨l6,hl6,h_3⟩:=ag h_3;try dsimp only at h_3
   refine ANew.mk (d_Trip l6) (dlen (d_Trip l6)) (by rw[←hl6];exact kw hg ht (aw hg ht _) rfl) (by rw[←hl6];exact jn hg ht (aw hg ht _) rfl) ?_;cbv;obtain⟨hc7,h_3⟩:=ak h_3;refine AStep.mk hc7 ?_;cbv;obtain⟨x10,hx10,h_3⟩:=aV h_3;obtain⟨x10_From,x10_To,x10_Start,x10_Takes,x10_Days,x10_Room⟩:=x10;try dsimp only at h_3
   refine AGet.mk _ (bg hg ht hx10) ?_;cbv;refine AStep.mk (eU ht (ap hg ht _)) ?_;cbv;obtain⟨x11,hx11,h_3⟩:=ag h_3;try dsimp only at h_3
   refine ACall.mk _ _ (by rw[show rd (d_S x1) 0 (dlen (d_S x1))=r_S x1 from gL hg ht (ap hg ht _)];try rfl) (hF _ _ _ (c9 hg ht hx11)) (.inr rfl) (nb rfl) ?_
   cbv;refine AGh.opn 2 1 (nat (wrap .i64 (sub v5 1))) (d_LI64 y1) _ rfl (jC hg ht hx8) rfl ?_;cbv;refine AGh.nil ?_;cbv;obtain⟨hc8,h_3⟩:=ak h_3;refine AStep.mk hc8 ?_;cbv;refine AStep.mk rfl ?_;cbv;obtain⟨hc9,h_3⟩:=ak h_3;refine AStep.mk hc9 ?_;cbv;obtain⟨x12,hx12,h_3⟩:=aV h_3;try dsimp only at h_3
   refine AGet.mk _ (bn hg ht hx12) ?_;cbv;refine AGh.cls 2 1 (nat (wrap .i64 (sub v5 1))) (d_LI64 y1) _ _ _ _ (d_LI64 y1) rfl rfl ⟨rfl,(am hg ht _)⟩ (j9 hg ht hx8) ?_;cbv;refine AGh.nil ?_;cbv;try rw[hg] at h_3
   try rw[ht] at h_3
   refine⟨⟨(n3,x11,x12,(wrap .i64 (sub v5 1)),l6),h_3⟩,Wk.of [(0,some 0),(1,some 1),(2,some 2),(3,some 420)] rfl rfl ?_ ?_,Nat.lt_succ_self _⟩
   ·cbv;all_goals exact⟨⟨_,rfl,rfl⟩,⟨_,rfl,rfl⟩,⟨_,rfl,rfl⟩,⟨_,rfl,rfl⟩,⟨_,rfl,rfl⟩,⟨_,rfl,rfl⟩,⟨_,rfl,rfl⟩,⟨_,rfl,rfl⟩,⟨_,rfl,rfl⟩,trivial⟩
   cbv;all_goals exact⟨⟨_,rfl,_,rfl,rfl,rfl,rfl,trivial⟩,⟨_,rfl,rfl⟩,⟨_,rfl,rfl⟩,⟨_,rfl,rfl⟩,trivial⟩
  rw[aa hb7] at h_3;have hK_:=h_3;subst hb7;have h_3:=hK_;clear hK_;cbv;obtain rfl:=Option.some.inj h_3;try dsimp only[lr,lrL,lrp,aH] at h
  obtain rfl:=Option.some.inj h;exact ARet.mk trivial (by rw[hX];first|rfl|(simp only[Trip.ds,Scan.ds,Leg.ds,Network.ds,Booking.ds,Belief.ds,Cur.ds,Spot.ds,Know.ds,hnil_Trip];try rfl))
 rintro y3 hy3;replace hy3:=hy3.symm;subst hy3;try dsimp only[lr,lrL,lrp,aH] at h
 cbv;obtain⟨l7,hl7,h⟩:=ag h;try dsimp only at h
 refine ANew.mk (d_Trip l7) (dlen (d_Trip l7)) (by rw[←hl7];exact ed hg ht []) (by rw[←hl7];exact dH hg ht []) ?_;cbv;obtain⟨o4,ho4,h⟩:=ae h;try dsimp only at h
 try rw[hg] at ho4
 try rw[ht] at ho4
 refine ABL.mk {p:Nat×(List Trip)×Int//eu G.real TE.real y3 p.1 p.2.1 p.2.2=some o4} (fun⟨⟨n4,w3,v6⟩,_⟩=>({sl:=[(19,.c (.f 0 2 0 (dlen (d_Trip y3)))),(22,.c (.f 1 2 0 (dlen (d_Trip w3)))),(23,.c (.r (.v (.int .i64 v6))))],tab:=[(0,some (.arr 2 (d_Trip y3))),(1,some (.arr 2 (d_Trip w3)))]}:St)) 2 (fun p=>p.1.1) ⟨(1000000000,l7,(wrap .i64 (sub (int (dlen (d_Trip y3))) 1))),ho4⟩ (List Trip) (fun y4=>({sl:=[(22,.c (.f 0 2 0 (dlen (d_Trip y4))))],tab:=[(0,some (.arr 2 (d_Trip y4)))]}:St)) 1 (fun y=>o4=y) ?_ ?_ ?_
 ·refine Wk.of [(0,some 0),(1,some 1)] rfl rfl ?_ ?_
  ·cbv;all_goals exact⟨⟨_,rfl,rfl⟩,⟨_,rfl,rfl⟩,⟨_,rfl,rfl⟩,trivial⟩
  cbv;all_goals exact⟨⟨_,rfl,rfl⟩,⟨_,rfl,rfl⟩,trivial⟩
 ·rintro⟨⟨n4,w3,v6⟩,h_4⟩ hq4;try dsimp only at h_4
  clear hq4;rcases n4 with _|n4
  ·rw[eu] at h_4;cases h_4
  rw[eu] at h_4;try rw[←hg] at h_4
  try rw[←ht] at h_4
  try dsimp only at h_4
  cbv
  cases hb8:(le 0 v6)
  ·rw[aa hb8] at h_4;cbv;refine⟨w3,Wk.of [(0,some 1)] rfl rfl ?_ ?_,(Option.some.inj h_4).symm⟩
   ·cbv;all_goals exact⟨⟨_,rfl,rfl⟩,trivial⟩
   cbv;all_goals exact⟨⟨_,rfl,rfl⟩,trivial⟩
  rw[ab hb8] at h_4;cbv;obtain⟨hc11,h_4⟩:=ak h_4;refine AStep.mk hc11 ?_;cbv;obtain⟨x13,hx13,h_4⟩:=aV h_4;obtain⟨x13_Leg,x13_Day⟩:=x13;try dsimp only at h_4
  refine AGet.mk _ (vV hg ht hx13) ?_;cbv;obtain⟨l8,hl8,h_4⟩:=ag h_4;try dsimp only at h_4
  refine ANew.mk (d_Trip l8) (dlen (d_Trip l8)) (by rw[←hl8];exact ed hg ht [(Trip.mk x13_Leg x13_Day)]) (by rw[←hl8];exact dH hg ht [(Trip.mk x13_Leg x13_Day)]) ?_;cbv;obtain⟨hc12,h_4⟩:=ak h_4;refine AStep.mk ⟨⟨rfl,(aw hg ht _)⟩,(gr hg ht (aw hg ht _) rfl hc12)⟩ ?_;cbv;obtain⟨l9,hl9,h_4⟩:=ag h_4;try dsimp only at h_4
  refine ANew.mk (d_Trip l9) (dlen (d_Trip l9)) (by rw[←hl9];exact kw hg ht (aw hg ht _) rfl) (by rw[←hl9];exact jn hg ht (aw hg ht _) rfl) ?_;cbv;try rw[hg] at h_4
  try rw[ht] at h_4
  refine⟨⟨(n4,l9,(wrap .i64 (sub v6 1))),h_4⟩,Wk.of [(0,some 0),(1,some 130)] rfl rfl ?_ ?_,Nat.lt_succ_self _⟩
  ·cbv;all_goals exact⟨⟨_,rfl,rfl⟩,⟨_,rfl,rfl⟩,⟨_,rfl,rfl⟩,trivial⟩
  cbv;all_goals exact⟨⟨_,rfl,rfl⟩,⟨_,rfl,rfl⟩,trivial⟩
 rintro y4 hy4;replace hy4:=hy4.symm;subst hy4;try dsimp only[lr,lrL,lrp,aH] at h
 cbv;obtain rfl:=Option.some.inj h;exact ARet.mk ⟨rfl,(aw hg ht _)⟩ hX.symm
def ir73:J:=js [jq 4 (.box 0),jq 5 (.box 1),jq 6 (.box 2),jq 7 (.box 3),jq 8 (.mv (.k (.c .un)))] [4,5,6,7] (js [jq 9 (.clo false 126 [4,6,5,7]),jm 8 9] [8] .ret)
def rv73:List RV:=[.t 8]
def mM (g:G) (t:TE) (a0:Network) (a1:List Booking) (a2:List Trip) (a3:Int):Fd:=
 (Fd.I_freeOf_1 a0 a2 a1 a3)
theorem wA {g:G} {t:TE} {a0:Network} {a1:List Booking} {a2:List Trip} {a3:Int} {r:Fd} (hg:g=G.real) (ht:t=TE.real) (h:mM g t a0 a1 a2 a3=r):Fn Tryz.prog 73 [.g (Network.rs t a0),.c (.s 4 (t.r_Booking a1)),.c (.s 2 (t.r_Trip a2)),.c (.v (.int .i64 a3))] (.c (.r (t.r_Fd r))):=by
 obtain⟨X,hX⟩:=aJ (.c (.r (t.r_Fd r)):X);rw[←hX];refine aE (rvs:=rv73) (j:=ir73) Tryz.func73 rfl (by kernel_rfl) (nb rfl) (by kernel_rfl) ac ?_;intro g2 F hg2 hF;obtain rfl:g2=g:=hg2.unique.trans hg.symm;clear hg2;obtain⟨_⟩:=g2;obtain⟨_,_,_,_,_,_,_,_,_,_,_,_,_,_,_,_,r_Fd⟩:=t
 obtain⟨a0_Legs,a0_Off,a0_Change⟩:=a0;unfold mM at h;try dsimp only at h
 cbv;refine AClo.mk (r_Fd (Fd.I_freeOf_1 (Network.mk a0_Legs a0_Off a0_Change) a2 a1 a3)) (kp ht (Network.mk a0_Legs a0_Off a0_Change) a2 a1 a3) ?_;cbv;subst h;exact ARet.mk trivial hX.symm
def ir23:J:=js [jq 7 (.box 0),jq 14 (.mv (.k (.c (.n 2)))),jm 15 kf] [1,2,3,4,5,6,7] (.seq (js [jl 18 3 7,jm 19 1,jc 20 31 [18,19],jq 21 (.not 20),jm 22 21,jv 23 22 (.mv 6),jv 24 22 (.bin .lss .i 23 (ki 1)),jq 25 (.pick 22 kt 24)] [1,2,3,4,5,6,7,25] (.cond 25 (js [jq 14 (.mv (.k (.c (.n 2)))),jm 15 kf] [14,15] .ret) .skip)) (.seq (.reg (some [[],[],[],[],[],[1,2,3,4],[],[],[],[0,1,2,3,4,5,6,7,8],[0,1,2,3,4,5,6,7,8,9],[0,1,2,3,4,5,6,7,8,9,10],[0,1,2,3,4,5,6,7,8,9,10],[0,1,2,3,4,5,6,7,8,9,10,11],[0,1,2,3,4,5,6,7,8,9,10,11,12,13]]) [jl 27 3 7,jl 28 3 7,jm 29 1,jm 30 2,jm 31 6,jc 32 73 [28,29,30,31],jm 33 3,jm 34 4,jm 35 5,jc 36 55 [27,32,33,34,35],jm 26 36,jq 37 (.ext 0 26),jq 38 (.ext 1 26),jm 16 37,jm 17 38] [16,17]) (js [jm 39 16,jm 40 17,jm 14 39,jm 15 40] [14,15] .ret)))
def rv23:List RV:=[.t 14,.t 15]
def gb (g:G) (t:TE) (a0:Network) (a1:List Booking) (a2:List Trip) (a3:ByteArray) (a4:ByteArray) (a5:Int) (a6:Int):Option ((List Trip)×Bool):=
 cl (bF g t a0 a1) fun x1=>
 br x1
 (
  br (g.lt a6 1)
  (
   some (([],false)))
  (
   lP (mM g t a0 a1 a2 a6) fun x2=>
   cl (oY g t a0 x2 a3 a4 a5) fun x3=>
   some ((x3.1,x3.2))))
 (
  some (([],false)))
theorem tx {g:G} {t:TE} {a0:Network} {a1:List Booking} {a2:List Trip} {a3:ByteArray} {a4:ByteArray} {a5:Int} {a6:Int} {r:(List Trip)×Bool} (hg:g=G.real) (ht:t=TE.real) (h:gb g t a0 a1 a2 a3 a4 a5 a6=some r):Fn Tryz.prog 23 [.g (Network.rs t a0),.c (.s 4 (t.r_Booking a1)),.c (.s 2 (t.r_Trip a2)),.c (.v (.string a3)),.c (.v (.string a4)),.c (.v (.int .i64 a5)),.c (.v (.int .i64 a6))] (.u [.c (.o 2 (t.d_Trip r.1)),.c (.r (.v (.bool r.2)))]):=by
 obtain⟨X,hX⟩:=aJ (.u [.c (.o 2 (t.d_Trip r.1)),.c (.r (.v (.bool r.2)))]:X);rw[←hX];refine aE (rvs:=rv23) (j:=ir23) Tryz.func23 rfl (by kernel_rfl) (nb rfl) (by kernel_rfl) ac ?_;intro g2 F hg2 hF;obtain rfl:g2=g:=hg2.unique.trans hg.symm;clear hg2;obtain⟨_,lt⟩:=g2;obtain⟨_,_,_,_,_,_,_,_,_,d_Trip⟩:=t
 obtain⟨a0_Legs,a0_Off,a0_Change⟩:=a0;have hnil_Trip:d_Trip []=[]:=qI ht;unfold gb at h;try dsimp only at h
 cbv;obtain⟨x1,hx1,h⟩:=ae h;try dsimp only at h
 refine ACall.mk _ _ rfl (hF _ _ _ (dY hg ht hx1)) (.inl rfl) (nb rfl) ?_;cbv
 cases hb1:x1
 ·rw[aa hb1] at h;cbv;iterate 2 try(rw[hb1];cbv)
  obtain rfl:=Option.some.inj h;exact ARet.mk trivial (by rw[hX];first|rfl|(simp only[Trip.ds,Scan.ds,Leg.ds,Network.ds,Booking.ds,Belief.ds,Cur.ds,Spot.ds,Know.ds,hnil_Trip];try rfl))
 rw[ab hb1] at h;cbv;iterate 2 try(rw[hb1];cbv)
 cases hb2:(lt a6 1)
 rotate_left
 ·rw[ab hb2] at h;cbv;obtain rfl:=Option.some.inj h;exact ARet.mk trivial (by rw[hX];first|rfl|(simp only[Trip.ds,Scan.ds,Leg.ds,Network.ds,Booking.ds,Belief.ds,Cur.ds,Spot.ds,Know.ds,hnil_Trip];try rfl))
 rw[aa hb2] at h;cbv;obtain⟨x2,hx2,h⟩:=ag h;try dsimp only at h
 refine ACall.mk _ _ rfl (hF _ _ _ (wA hg ht hx2)) (.inl rfl) (nb rfl) ?_;cbv;obtain⟨x3,hx3,h⟩:=ae h;obtain⟨x3_1,x3_2⟩:=x3;try dsimp only at h
 refine ACall.mk _ _ rfl (hF _ _ _ (yj hg ht hx3)) (.inl rfl) (nb rfl) ?_;cbv;obtain rfl:=Option.some.inj h;exact ARet.mk ⟨rfl,(aw hg ht _)⟩ hX.symm
def ir25:J:=js [jq 4 (.mv (.k (.c (.n 2))))] [0,1] (js [jq 8 (.bsl 2 []),jm 5 8] [0,1,5] (.seq (js [jm 9 0,jq 10 (.len false 9),jm 11 (ki 0)] [1,5,9,10,11] (.bl 0 (js [jb 12 .lss .i 11 10] [1,5,9,10,11,12] (.seq (.cond 12 .skip (.exit 0)) (.seq (.block 1 (js [ja 13 4 9 11,jl 14 4 13,jq 7 (.alloc [.r (.v (.int .i64 0)),.r (.v (.int .i64 0)),.r (.v (.int .i64 0)),.r (.v (.int .i64 0))]),jp (.st 4 7 14)] [1,5,7,9,10,11] (js [jf 15 0 7,jk 16 15,jm 17 1,jb 18 .eql .i 16 17] [1,5,7,9,10,11,18] (.cond 18 (.reg none [jm 19 5,jf 20 1 7,jl 21 2 20,jq 22 (.bsl 2 [21]),jq 23 (.app 2 16 true 19 22),jm 5 23] [1,5,9,10,11]) .skip)))) (.reg none [jb 24 .add .i 11 (ki 1),jm 11 24] [1,5,9,10,11])))))) (js [jm 25 5,jm 4 25] [4] .ret)))
def rv25:List RV:=[.t 4]
def cD (g:G) (t:TE) (a1:Int):List Booking→List Trip→Option (List Trip)
 |[],w1=>
  some w1
 |z1::ls1,w1=>
  br (g.eq z1.Thing a1)
  (
   lP ([(Trip.mk z1.Trip.Leg z1.Trip.Day)]) fun(l2:List Trip)=>
   gd (((w1.length+l2.length)*16≤70368744177664))<|
   lP (w1++l2) fun(l3:List Trip)=>
   cD g t a1 ls1 l3)
  (
   cD g t a1 ls1 w1)
def gZ (g:G) (t:TE) (a0:List Booking) (a1:Int):Option (List Trip):=
 lP ([]) fun(l1:List Trip)=>
 cl (cD g t a1 a0 l1) fun y1=>
 some y1
theorem tX {g:G} {t:TE} {a0:List Booking} {a1:Int} {r:List Trip} (hg:g=G.real) (ht:t=TE.real) (h:gZ g t a0 a1=some r):Fn Tryz.prog 25 [.c (.s 4 (t.r_Booking a0)),.c (.v (.int .i64 a1))] (.c (.o 2 (t.d_Trip r))):=by
 obtain⟨X,hX⟩:=aJ (.c (.o 2 (t.d_Trip r)):X);rw[←hX];refine aE (rvs:=rv25) (j:=ir25) Tryz.func25 rfl (by kernel_rfl) (nb rfl) (by kernel_rfl) ac ?_;intro g2 F hg2 hF;obtain rfl:g2=g:=hg2.unique.trans hg.symm;clear hg2;obtain⟨wrap,lt,_,eq,_,_,_,_,_,_,_,_,_,add,_,_,_,_,_,_,_,llen,_,_,dlen⟩:=g2;obtain⟨_,_,_,_,_,_,_,_,_,d_Trip,r_Booking⟩:=t
 unfold gZ at h;try dsimp only at h
 cbv;obtain⟨l1,hl1,h⟩:=ag h;try dsimp only at h
 refine ANew.mk (d_Trip l1) (dlen (d_Trip l1)) (by rw[←hl1];exact ed hg ht []) (by rw[←hl1];exact dH hg ht []) ?_;cbv;obtain⟨o1,ho1,h⟩:=ae h;try dsimp only at h
 try rw[hg] at ho1
 try rw[ht] at ho1
 refine ABL.mk {p:Nat×Int×List Trip//p.1≤a0.length∧p.2.1=((p.1:Nat):Int)∧cD G.real TE.real a1 (List.drop p.1 a0) p.2.2=some o1} (fun⟨⟨k1,v1,w1⟩,_⟩=>({sl:=[(1,.c (.r (.v (.int .i64 a1)))),(5,.c (.f 0 2 0 (dlen (d_Trip w1)))),(9,.c (.r (.s 4 (r_Booking a0)))),(10,.c (.r (.v (.int .i64 (llen (r_Booking a0)))))),(11,.c (.r (.v (.int .i64 v1))))],tab:=[(0,some (.arr 2 (d_Trip w1)))]}:St)) 1 (fun p=>a0.length-p.1.1) ⟨(0,0,l1),Nat.zero_le _,rfl,ho1⟩ (List Trip) (fun y1=>({sl:=[(5,.c (.f 0 2 0 (dlen (d_Trip y1))))],tab:=[(0,some (.arr 2 (d_Trip y1)))]}:St)) 1 (fun y=>o1=y) ?_ ?_ ?_
 ·refine Wk.of [(0,some 16)] rfl rfl ?_ ?_
  ·cbv;all_goals exact⟨⟨_,rfl,rfl⟩,⟨_,rfl,rfl⟩,⟨_,rfl,rfl⟩,⟨_,rfl,rfl⟩,⟨_,rfl,rfl⟩,trivial⟩
  cbv;all_goals exact⟨⟨_,rfl,rfl⟩,trivial⟩
 ·rintro⟨⟨k1,v1,w1⟩,hk1,hi1,h_1⟩ hq1;have hm1:=(hq1.1 9 _ _ rfl);try dsimp only at hk1 hi1 h_1
  clear hq1;cbv
  by_cases hc1_:k1<a0.length
  ·have hb1:lt v1 (llen (r_Booking a0))=true:=bU hg ht hi1 hc1_;have hs1:=dt hg ht hi1 hc1_ hm1;obtain⟨z1,hz1⟩:=av hc1_;rw[aq hz1] at h_1;rw[cD] at h_1;obtain⟨z1_Thing,⟨z1_Trip_Leg,z1_Trip_Day⟩,z1_Weight⟩:=z1;try rw[←hg] at h_1
   try rw[←ht] at h_1
   try dsimp only at h_1
   rw[hb1];cbv;refine AStep.mk (d8 hi1) ?_;cbv;refine AGet.mk _ (bL hg ht hi1 hz1) ?_;cbv
   cases hb2:(eq z1_Thing a1)
   ·rw[aa hb2] at h_1;cbv;try rw[hg] at h_1
    try rw[ht] at h_1
    refine⟨⟨(k1+1,(wrap .i64 (add v1 1)),w1),hc1_,hs1,h_1⟩,Wk.of [(0,some 0)] rfl rfl ?_ ?_,aB hc1_⟩
    ·cbv;all_goals exact⟨⟨_,rfl,rfl⟩,⟨_,rfl,rfl⟩,⟨_,rfl,rfl⟩,⟨_,rfl,rfl⟩,⟨_,rfl,rfl⟩,trivial⟩
    cbv;all_goals exact⟨⟨_,rfl,rfl⟩,trivial⟩
   rw[ab hb2] at h_1;cbv;obtain⟨l2,hl2,h_1⟩:=ag h_1;try dsimp only at h_1
   refine ANew.mk (d_Trip l2) (dlen (d_Trip l2)) (by rw[←hl2];exact ed hg ht [(Trip.mk z1_Trip_Leg z1_Trip_Day)]) (by rw[←hl2];exact dH hg ht [(Trip.mk z1_Trip_Leg z1_Trip_Day)]) ?_;cbv;obtain⟨hc1,h_1⟩:=ak h_1;refine AStep.mk ⟨⟨rfl,(aw hg ht _)⟩,(gr hg ht (aw hg ht _) rfl hc1)⟩ ?_;cbv;obtain⟨l3,hl3,h_1⟩:=ag h_1;try dsimp only at h_1
   refine ANew.mk (d_Trip l3) (dlen (d_Trip l3)) (by rw[←hl3];exact kw hg ht (aw hg ht _) rfl) (by rw[←hl3];exact jn hg ht (aw hg ht _) rfl) ?_;cbv;try rw[hg] at h_1
   try rw[ht] at h_1
   refine⟨⟨(k1+1,(wrap .i64 (add v1 1)),l3),hc1_,hs1,h_1⟩,Wk.of [(0,some 209)] rfl rfl ?_ ?_,aB hc1_⟩
   ·cbv;all_goals exact⟨⟨_,rfl,rfl⟩,⟨_,rfl,rfl⟩,⟨_,rfl,rfl⟩,⟨_,rfl,rfl⟩,⟨_,rfl,rfl⟩,trivial⟩
   cbv;all_goals exact⟨⟨_,rfl,rfl⟩,trivial⟩
  have hb1:lt v1 (llen (r_Booking a0))=false:=bM hg ht hi1 hc1_;rw[List.drop_of_length_le (Nat.le_of_not_lt hc1_)] at h_1;rw[cD] at h_1;try rw[←hg] at h_1
  try rw[←ht] at h_1
  try dsimp only at h_1
  rw[hb1];cbv;refine⟨w1,Wk.of [(0,some 0)] rfl rfl ?_ ?_,(Option.some.inj h_1).symm⟩
  ·cbv;all_goals exact⟨⟨_,rfl,rfl⟩,trivial⟩
  cbv;all_goals exact⟨⟨_,rfl,rfl⟩,trivial⟩
 rintro y1 hy1;replace hy1:=hy1.symm;subst hy1;try dsimp only[lr,lrL,lrp,aH] at h
 cbv;obtain rfl:=Option.some.inj h;exact ARet.mk ⟨rfl,(aw hg ht _)⟩ hX.symm
def ir26:J:=js [jq 3 (.box 0),jq 5 (.box 2),jm 6 (ki 0)] [1,3,5] (.seq (js [jl 7 3 3,jm 8 1,jc 9 31 [7,8],jq 10 (.not 9),jm 11 10,jv 12 11 (.ld true 3 3),jv 13 11 (.ld true 2 5),jv 14 11 (.call 76 true [12,13]),jv 15 11 (.not 14),jq 16 (.pick 11 kt 15)] [1,3,5,16] (.cond 16 (js [jq 6 (.mv (.k (V.i (-1))))] [6] .ret) .skip)) (.seq (.reg (some [[],[0],[],[2],[0,1,2,3],[0,1,2,3,4],[0,1,2,3,4,5],[],[],[7,8],[0,1,2,3,4,5,6,7,8,9],[0,1,2,3,4,5,6,7,8,9,10]]) [jf 17 0 3,jk 18 17,jf 19 0 5,jk 20 19,ja 21 6 18 20,jf 22 5 21,jk 23 22,jm 24 1,jl 25 2 5,jc 26 77 [24,25],jb 27 .sub .i 23 26,jm 6 27] [6]) .ret))
def rv26:List RV:=[.t 6]
def jd (g:G) (t:TE) (a0:Network) (a1:List Booking) (a2:Trip):Option Int:=
 cl (bF g t a0 a1) fun x1=>
 br x1
 (
  cl (fK g t a0 a2) fun x2=>
  br x2
  (
   gd (((0:Int)≤a2.Leg))<|
   gt a0.Legs (g.nat a2.Leg) fun x3=>
   lP (cA g t a1 a2) fun x4=>
   some (g.wrap .i64 (g.sub x3.Room x4)))
  (
   some (-1)))
 (
  some (-1))
theorem tV {g:G} {t:TE} {a0:Network} {a1:List Booking} {a2:Trip} {r:Int} (hg:g=G.real) (ht:t=TE.real) (h:jd g t a0 a1 a2=some r):Fn Tryz.prog 26 [.g (Network.rs t a0),.c (.s 4 (t.r_Booking a1)),.g (Trip.rs t a2)] (.c (.r (.v (.int .i64 r)))):=by
 obtain⟨X,hX⟩:=aJ (.c (.r (.v (.int .i64 r))):X);rw[←hX];refine aE (rvs:=rv26) (j:=ir26) Tryz.func26 rfl (by kernel_rfl) (nb rfl) (by kernel_rfl) ac ?_;intro g2 F hg2 hF;obtain rfl:g2=g:=hg2.unique.trans hg.symm;clear hg2;obtain⟨_⟩:=g2;obtain⟨_⟩:=t
 obtain⟨a0_Legs,a0_Off,a0_Change⟩:=a0;obtain⟨a2_Leg,a2_Day⟩:=a2;unfold jd at h;try dsimp only at h
 cbv;obtain⟨x1,hx1,h⟩:=ae h;try dsimp only at h
 refine ACall.mk _ _ rfl (hF _ _ _ (dY hg ht hx1)) (.inl rfl) (nb rfl) ?_;cbv
 cases hb1:x1
 ·rw[aa hb1] at h;cbv;iterate 4 try(rw[hb1];cbv)
  obtain rfl:=Option.some.inj h;exact ARet.mk trivial hX.symm
 rw[ab hb1] at h;cbv;iterate 2 try(rw[hb1];cbv)
 obtain⟨x2,hx2,h⟩:=ae h;try dsimp only at h
 refine ACall.mk _ _ rfl (hF _ _ _ (ic hg ht hx2)) (.inl rfl) (nb rfl) ?_;cbv;iterate 2 try(rw[hb1];cbv)
 cases hb2:x2
 ·rw[aa hb2] at h;cbv;obtain rfl:=Option.some.inj h;exact ARet.mk trivial hX.symm
 rw[ab hb2] at h;cbv;obtain⟨hc1,h⟩:=ak h;refine AStep.mk hc1 ?_;cbv;obtain⟨x3,hx3,h⟩:=aV h;obtain⟨x3_From,x3_To,x3_Start,x3_Takes,x3_Days,x3_Room⟩:=x3;try dsimp only at h
 refine AGet.mk _ (bg hg ht hx3) ?_;cbv;obtain⟨x4,hx4,h⟩:=ag h;try dsimp only at h
 refine ACall.mk _ _ rfl (hF _ _ _ (jJ hg ht hx4)) (.inl rfl) (nb rfl) ?_;cbv;obtain rfl:=Option.some.inj h;exact ARet.mk trivial hX.symm
def ir27:J:=js [jq 3 (.box 1),jm 4 kf] [0,3] (.seq (js [jm 5 (ki 0)] [0,3,5] (.bl 0 (.seq (js [jm 6 5,jm 7 0,jq 8 (.len false 7),jb 9 .lss .i 6 8] [0,3,5,9] (.cond 9 .skip (.exit 0))) (.seq (.block 1 (.seq (.reg (some [[],[],[0,1],[0,1,2],[],[0,1,2,3,4]]) [jm 12 0,jm 13 5,ja 14 2 12 13,jl 15 2 14,jl 16 2 3,jq 17 (.eqs false [.i,.i] 15 16)] [0,3,5,17]) (.cond 17 (js [jm 4 kt] [4] .ret) .skip))) (.reg none [jm 10 5,jb 11 .add .i 10 (ki 1),jm 5 11] [0,3,5]))))) (js [jm 4 kf] [4] .ret))
def rv27:List RV:=[.t 4]
def eD (g:G) (t:TE) (a1:Trip):List Trip→LR Bool Unit
 |[]=>
  (LR.out ())
 |z1::ls1=>
  br (g.all [(g.eq z1.Leg a1.Leg),(g.eq z1.Day a1.Day)])
  (
   (LR.ret true))
  (
   eD g t a1 ls1)
def mC (g:G) (t:TE) (a0:List Trip) (a1:Trip):Bool:=
 lP (eD g t a1 a0) fun o1=>lrp o1 fun y1=>
 false
theorem yX {g:G} {t:TE} {a0:List Trip} {a1:Trip} {r:Bool} (hg:g=G.real) (ht:t=TE.real) (h:mC g t a0 a1=r):Fn Tryz.prog 27 [.c (.s 2 (t.r_Trip a0)),.g (Trip.rs t a1)] (.c (.r (.v (.bool r)))):=by
 obtain⟨X,hX⟩:=aJ (.c (.r (.v (.bool r))):X);rw[←hX];refine aE (rvs:=rv27) (j:=ir27) Tryz.func27 rfl (by kernel_rfl) (nb rfl) (by kernel_rfl) ac ?_;intro g2 F hg2 hF;obtain rfl:g2=g:=hg2.unique.trans hg.symm;clear hg2;obtain⟨wrap,lt,_,eq,_,_,_,_,_,_,_,_,_,add,_,_,_,_,_,_,_,llen,_,_,_,_,_,_,_,_,_,_,_,all⟩:=g2;obtain⟨_,_,_,_,_,_,_,_,r_Trip⟩:=t
 obtain⟨a1_Leg,a1_Day⟩:=a1;unfold mC at h;try dsimp only at h
 cbv;obtain⟨o1,ho1,h⟩:=ag h;try dsimp only at h
 try rw[hg] at ho1
 try rw[ht] at ho1
 refine ABL.mk {p:Nat×Int//p.1≤a0.length∧p.2=((p.1:Nat):Int)∧eD G.real TE.real (Trip.mk a1_Leg a1_Day) (List.drop p.1 a0)=o1} (fun⟨⟨k1,v1⟩,_⟩=>({sl:=[(0,.c (.r (.s 2 (r_Trip a0)))),(3,.c (.p 0 2 0 0)),(5,.c (.r (.v (.int .i64 v1))))],tab:=[(0,some (.foc 2 [] [.r (.v (.int .i64 a1_Leg)),.r (.v (.int .i64 a1_Day))] []))]}:St)) 1 (fun p=>a0.length-p.1.1) ⟨(0,0),Nat.zero_le _,rfl,ho1⟩ (Unit) (fun _=>({sl:=[],tab:=[]}:St)) 0 (fun y=>o1=LR.out y) ?_ ?_ ?_
 ·refine Wk.of [(0,some 0)] rfl rfl ?_ ?_
  ·cbv;all_goals exact⟨⟨_,rfl,rfl⟩,⟨_,rfl,rfl⟩,⟨_,rfl,rfl⟩,trivial⟩
  cbv;all_goals exact⟨⟨_,rfl,_,rfl,rfl,rfl,trivial⟩,trivial⟩
 ·rintro⟨⟨k1,v1⟩,hk1,hi1,h_1⟩ hq1;have hm1:=(hq1.1 0 _ _ rfl);try dsimp only at hk1 hi1 h_1
  clear hq1;cbv
  by_cases hc1_:k1<a0.length
  ·have hb1:lt v1 (llen (r_Trip a0))=true:=cK hg ht hi1 hc1_;have hs1:=eE hg ht hi1 hc1_ hm1;obtain⟨z1,hz1⟩:=av hc1_;rw[aq hz1] at h_1;rw[eD] at h_1;obtain⟨z1_Leg,z1_Day⟩:=z1;try rw[←hg] at h_1
   try rw[←ht] at h_1
   try dsimp only at h_1
   rw[hb1];cbv;refine AStep.mk (d8 hi1) ?_;cbv;refine AGet.mk _ (cN hg ht hi1 hz1) ?_;cbv
   cases hb2:(all [(eq z1_Leg a1_Leg),(eq z1_Day a1_Day)])
   rotate_left
   ·rw[ab hb2] at h_1;cbv;subst h_1;try dsimp only[lr,lrL,lrp,aH] at h
    subst h;exact ARet.mk trivial hX.symm
   rw[aa hb2] at h_1;cbv;try rw[hg] at h_1
   try rw[ht] at h_1
   refine⟨⟨(k1+1,(wrap .i64 (add v1 1))),hc1_,hs1,h_1⟩,Wk.of [(0,some 0)] rfl rfl ?_ ?_,aB hc1_⟩
   ·cbv;all_goals exact⟨⟨_,rfl,rfl⟩,⟨_,rfl,rfl⟩,⟨_,rfl,rfl⟩,trivial⟩
   cbv;all_goals exact⟨⟨_,rfl,_,rfl,rfl,rfl,trivial⟩,trivial⟩
  have hb1:lt v1 (llen (r_Trip a0))=false:=cf hg ht hi1 hc1_;rw[List.drop_of_length_le (Nat.le_of_not_lt hc1_)] at h_1;rw[eD] at h_1;try rw[←hg] at h_1
  try rw[←ht] at h_1
  try dsimp only at h_1
  rw[hb1];cbv;refine⟨(),Wk.of [] rfl rfl ?_ ?_,h_1.symm⟩
  ·cbv;all_goals exact trivial
  cbv;all_goals exact trivial
 rintro _ hy1;replace hy1:=hy1.symm;subst hy1;try dsimp only[lr,lrL,lrp,aH] at h
 cbv;subst h;exact ARet.mk trivial hX.symm
end Go.Vs
