/- Part of the proofs of this seat's laws: Lac. No condition. -/
import Derived.Test.YticpmdigfdpmfaaTy
import Derived.Test.YticpmdigfdpmfaaTIRall
import Derived.Test.YticpmdigfdpmfaaLab
import Derived.Test.YticpmdigfdpmfaaVg
import Derived.Test.YticpmdigfdpmfaaProg
import Derived.Shelf.Sort.AssemblysIn
import Derived.Shelf.Sort.So_math_bits_LenInS
import Derived.Shelf.Lay
import Derived.Sort.EveryDepth
import Derived.Lib.Walk
import Derived.LoopN
import Derived.Test.YticpmdigfdpmfaaLaa
set_option linter.unusedVariables false
set_option linter.unusedSimpArgs false
set_option linter.unusedSectionVars false
namespace Go.Vs
set_option maxRecDepth 100000
def ir62:J:=js [jq 3 (.box 0),jm 6 kf] [1,2,3] (js [jl 7 3 3,jc 8 26 [7],jm 9 8,ju 10 9 (.ld true 3 3),ju 11 9 (.mv 1),ju 12 9 (.mv 2),ju 13 9 (.call 43 true [10,11,12]),jq 14 (.pick 9 13 kf),jm 6 14] [6] .ret)
def rv62:List RV:=[.t 6]
open Go.Proofs Go.IntWalk
set_option linter.unusedVariables false
set_option maxHeartbeats 4000000
def lx (g:G) (t:TE) (a0:Network) (a1:Int) (a2:Int):Option Bool:=
 cl (di g t a0) fun x1=>
 br x1
 (
  cl (jh g t a0 a1 a2) fun x2=>
  some x2)
 (
  some false)
theorem t7 {g:G} {t:TE} {a0:Network} {a1:Int} {a2:Int} {r:Bool} (hg:g=G.real) (ht:t=TE.real) (h:lx g t a0 a1 a2=some r):Fn Try.prog 62 [.g (Network.rs t a0),.c (.v (.int .i64 a1)),.c (.v (.int .i64 a2))] (.c (.r (.v (.bool r)))):=by
 obtain⟨X,hX⟩:=aO (.c (.r (.v (.bool r))):X);rw[←hX];refine aN (rvs:=rv62) (j:=ir62) Try.func62 rfl (by kernel_rfl) (nb rfl) (by kernel_rfl) ac ?_;intro g2 F hg2 hF;obtain rfl:g2=g:=hg2.unique.trans hg.symm;clear hg2;obtain⟨_⟩:=g2;obtain⟨_⟩:=t
 obtain⟨a0_Legs,a0_Off,a0_Change⟩:=a0;unfold lx at h;try dsimp only at h
 cbv;obtain⟨x1,hx1,h⟩:=ae h;try dsimp only at h
 refine ACall.mk _ _ rfl (hF _ _ _ (gT hg ht hx1)) (.inl rfl) (nb rfl) ?_;cbv
 cases hb1:x1
 ·rw[aa hb1] at h;cbv;iterate 4 try(rw[hb1];cbv)
  obtain rfl:=Option.some.inj h;exact ARet.mk trivial hX.symm
 rw[ab hb1] at h;cbv;iterate 3 try(rw[hb1];cbv)
 obtain⟨x2,hx2,h⟩:=ae h;try dsimp only at h
 refine ACall.mk _ _ rfl (hF _ _ _ (pc hg ht hx2)) (.inl rfl) (nb rfl) ?_;cbv;try(rw[hb1];cbv)
 obtain rfl:=Option.some.inj h;exact ARet.mk trivial hX.symm
def ir35:J:=js [jq 2 (.box 0),jq 3 (.box 1),jm 4 kf] [2,3] (js [jl 5 3 2,jf 6 0 3,jk 7 6,jf 8 1 3,jk 9 8,jc 10 62 [5,7,9],jm 4 10] [4] .ret)
def rv35:List RV:=[.t 4]
def ig (g:G) (t:TE) (a0:Network) (a1:Trip):Option Bool:=
 cl (lx g t a0 a1.Leg a1.Day) fun x1=>
 some x1
theorem oG {g:G} {t:TE} {a0:Network} {a1:Trip} {r:Bool} (hg:g=G.real) (ht:t=TE.real) (h:ig g t a0 a1=some r):Fn Try.prog 35 [.g (Network.rs t a0),.g (Trip.rs t a1)] (.c (.r (.v (.bool r)))):=by
 obtain⟨X,hX⟩:=aO (.c (.r (.v (.bool r))):X);rw[←hX];refine aN (rvs:=rv35) (j:=ir35) Try.func35 rfl (by kernel_rfl) (nb rfl) (by kernel_rfl) ac ?_;intro g2 F hg2 hF;obtain rfl:g2=g:=hg2.unique.trans hg.symm;clear hg2;obtain⟨_⟩:=g2;obtain⟨_⟩:=t
 obtain⟨a0_Legs,a0_Off,a0_Change⟩:=a0;obtain⟨a1_Leg,a1_Day⟩:=a1;unfold ig at h;try dsimp only at h
 cbv;obtain⟨x1,hx1,h⟩:=ae h;try dsimp only at h
 refine ACall.mk _ _ rfl (hF _ _ _ (t7 hg ht hx1)) (.inl rfl) (nb rfl) ?_;cbv;obtain rfl:=Option.some.inj h;exact ARet.mk trivial hX.symm
def ir37:J:=js [jq 3 (.box 1),jm 4 (ki 0)] [0,3] (js [jm 5 (ki 0)] [0,3,5] (.seq (js [jm 8 0,jq 9 (.len false 8),jm 10 (ki 0)] [3,5,8,9,10] (.bl 0 (js [jb 11 .lss .i 10 9] [3,5,8,9,10,11] (.seq (.cond 11 .skip (.exit 0)) (.seq (.block 1 (js [ja 12 4 8 10,jl 13 4 12,jq 7 (.alloc [.r (.v (.int .i64 0)),.r (.v (.int .i64 0)),.r (.v (.int .i64 0)),.r (.v (.int .i64 0))]),jp (.st 4 7 13)] [3,5,7,8,9,10] (js [jf 14 1 7,jl 15 2 14,jl 16 2 3,jq 17 (.eqs false [.i,.i] 15 16)] [3,5,7,8,9,10,17] (.cond 17 (.reg none [jm 18 5,jf 19 3 7,jk 20 19,jb 21 .add .i 18 20,jm 5 21] [3,5,8,9,10]) .skip)))) (.reg none [jb 22 .add .i 10 (ki 1),jm 10 22] [3,5,8,9,10])))))) (js [jm 23 5,jm 4 23] [4] .ret)))
def rv37:List RV:=[.t 4]
def cQ (g:G) (t:TE) (a1:Trip):List Booking→Int→Int
 |[],v1=>
  v1
 |z1::ls1,v1=>
  br (g.all [(g.eq z1.Trip.Leg a1.Leg),(g.eq z1.Trip.Day a1.Day)])
  (
   cQ g t a1 ls1 (g.wrap .i64 (g.add v1 z1.Weight)))
  (
   cQ g t a1 ls1 v1)
def cI (g:G) (t:TE) (a0:List Booking) (a1:Trip):Int:=
 lP (cQ g t a1 a0 0) fun y1=>
 y1
theorem kO {g:G} {t:TE} {a0:List Booking} {a1:Trip} {r:Int} (hg:g=G.real) (ht:t=TE.real) (h:cI g t a0 a1=r):Fn Try.prog 37 [.c (.s 4 (t.r_Booking a0)),.g (Trip.rs t a1)] (.c (.r (.v (.int .i64 r)))):=by
 obtain⟨X,hX⟩:=aO (.c (.r (.v (.int .i64 r))):X);rw[←hX];refine aN (rvs:=rv37) (j:=ir37) Try.func37 rfl (by kernel_rfl) (nb rfl) (by kernel_rfl) ac ?_;intro g2 F hg2 hF;obtain rfl:g2=g:=hg2.unique.trans hg.symm;clear hg2;obtain⟨wrap,lt,_,eq,_,_,_,_,_,_,_,_,_,add,_,_,_,_,_,_,_,llen,_,_,_,_,_,_,_,_,_,_,_,all⟩:=g2;obtain⟨_,_,r_Booking⟩:=t
 obtain⟨a1_Leg,a1_Day⟩:=a1;unfold cI at h;try dsimp only at h
 cbv;obtain⟨o1,ho1,h⟩:=af h;try dsimp only at h
 try rw[hg] at ho1
 try rw[ht] at ho1
 refine ABL.mk {p:Nat×Int×Int//p.1≤a0.length∧p.2.1=((p.1:Nat):Int)∧cQ G.real TE.real (Trip.mk a1_Leg a1_Day) (List.drop p.1 a0) p.2.2=o1} (fun⟨⟨k1,v2,v1⟩,_⟩=>({sl:=[(3,.c (.p 0 2 0 0)),(5,.c (.r (.v (.int .i64 v1)))),(8,.c (.r (.s 4 (r_Booking a0)))),(9,.c (.r (.v (.int .i64 (llen (r_Booking a0)))))),(10,.c (.r (.v (.int .i64 v2))))],tab:=[(0,some (.foc 2 [] [.r (.v (.int .i64 a1_Leg)),.r (.v (.int .i64 a1_Day))] []))]}:St)) 1 (fun p=>a0.length-p.1.1) ⟨(0,0,0),Nat.zero_le _,rfl,ho1⟩ (Int) (fun y1=>({sl:=[(5,.c (.r (.v (.int .i64 y1))))],tab:=[]}:St)) 0 (fun y=>o1=y) ?_ ?_ ?_
 ·refine Wk.of [(0,some 0)] rfl rfl ?_ ?_
  ·cbv;all_goals exact⟨⟨_,rfl,rfl⟩,⟨_,rfl,rfl⟩,⟨_,rfl,rfl⟩,⟨_,rfl,rfl⟩,⟨_,rfl,rfl⟩,trivial⟩
  cbv;all_goals exact⟨⟨_,rfl,_,rfl,rfl,rfl,trivial⟩,trivial⟩
 ·rintro⟨⟨k1,v2,v1⟩,hk1,hi1,h_1⟩ hq1;have hm1:=(hq1.1 8 _ _ rfl);try dsimp only at hk1 hi1 h_1
  clear hq1;cbv
  by_cases hc1_:k1<a0.length
  ·have hb1:lt v2 (llen (r_Booking a0))=true:=cr hg ht hi1 hc1_;have hs1:=du hg ht hi1 hc1_ hm1;obtain⟨z1,hz1⟩:=av hc1_;rw[ao hz1] at h_1;rw[cQ] at h_1;obtain⟨z1_Thing,⟨z1_Trip_Leg,z1_Trip_Day⟩,z1_Weight⟩:=z1;try rw[←hg] at h_1
   try rw[←ht] at h_1
   try dsimp only at h_1
   rw[hb1];cbv;refine AStep.mk (eb hi1) ?_;cbv;refine AGet.mk _ (bP hg ht hi1 hz1) ?_;cbv
   cases hb2:(all [(eq z1_Trip_Leg a1_Leg),(eq z1_Trip_Day a1_Day)])
   ·rw[aa hb2] at h_1;cbv;try rw[hg] at h_1
    try rw[ht] at h_1
    refine⟨⟨(k1+1,(wrap .i64 (add v2 1)),v1),hc1_,hs1,h_1⟩,Wk.of [(0,some 0)] rfl rfl ?_ ?_,aB hc1_⟩
    ·cbv;all_goals exact⟨⟨_,rfl,rfl⟩,⟨_,rfl,rfl⟩,⟨_,rfl,rfl⟩,⟨_,rfl,rfl⟩,⟨_,rfl,rfl⟩,trivial⟩
    cbv;all_goals exact⟨⟨_,rfl,_,rfl,rfl,rfl,trivial⟩,trivial⟩
   rw[ab hb2] at h_1;cbv;try rw[hg] at h_1
   try rw[ht] at h_1
   refine⟨⟨(k1+1,(wrap .i64 (add v2 1)),(wrap .i64 (add v1 z1_Weight))),hc1_,hs1,h_1⟩,Wk.of [(0,some 0)] rfl rfl ?_ ?_,aB hc1_⟩
   ·cbv;all_goals exact⟨⟨_,rfl,rfl⟩,⟨_,rfl,rfl⟩,⟨_,rfl,rfl⟩,⟨_,rfl,rfl⟩,⟨_,rfl,rfl⟩,trivial⟩
   cbv;all_goals exact⟨⟨_,rfl,_,rfl,rfl,rfl,trivial⟩,trivial⟩
  have hb1:lt v2 (llen (r_Booking a0))=false:=bS hg ht hi1 hc1_;rw[List.drop_of_length_le (Nat.le_of_not_lt hc1_)] at h_1;rw[cQ] at h_1;try rw[←hg] at h_1
  try rw[←ht] at h_1
  try dsimp only at h_1
  rw[hb1];cbv;refine⟨v1,Wk.of [] rfl rfl ?_ ?_,h_1.symm⟩
  ·cbv;all_goals exact⟨⟨_,rfl,rfl⟩,trivial⟩
  cbv;all_goals exact trivial
 rintro y1 hy1;replace hy1:=hy1.symm;subst hy1;try dsimp only[lr,lrL,lrp,aH] at h
 cbv;subst h;exact ARet.mk trivial hX.symm
def ir19:J:=js [jq 2 (.box 0),jm 4 kf] [1,2] (.seq (js [jl 7 3 2,jc 8 26 [7],jq 9 (.not 8),jm 10 9,jv 11 10 (.mv 1),jv 12 10 (.len false 11),jv 13 10 (.bin .gtr .i 12 (ki 120)),jq 14 (.pick 10 kt 13)] [1,2,14] (.cond 14 (js [jm 4 kf] [4] .ret) .skip)) (.seq (js [jm 15 1,jq 16 (.len false 15),jm 17 (ki 0)] [1,2,15,16,17] (.bl 0 (js [jb 18 .lss .i 17 16] [1,2,15,16,17,18] (.seq (.cond 18 .skip (.exit 0)) (.seq (.block 1 (js [jm 19 17,ja 20 4 15 17,jl 21 4 20,jq 6 (.alloc [.r (.v (.int .i64 0)),.r (.v (.int .i64 0)),.r (.v (.int .i64 0)),.r (.v (.int .i64 0))]),jm 5 19,jp (.st 4 6 21)] [1,2,5,6,15,16,17] (.seq (.reg (some [[],[0],[0,1],[0,1,2],[0,1,2],[0,1,2,4],[0,1,2,3,4,5],[0,1,2,3,4,5,6],[0,1,2],[0,1,2,3,4,5,6,7,8],[0,1,2,3,4,5,6,7,8,9],[0,1,2,3,4,5,6,7,8,9,10],[0,1,2,3,4,5,6,7,8,9,10,11],[0,1,2,3,4,5,6,7,8,9,10,11,12],[0,1,2,3,4,5,6,7,8,9,10,11,12],[0,1,2,3,4,5,6,7,8,9,10,11,12,14],[0,1,2,3,4,5,6,7,8,9,10,11,12,13,14,15],[0,1,2,3,4,5,6,7,8,9,10,11,12,13,14,15,16],[0,1,2,3,4,5,6,7,8,9,10,11,12,13,14,15,16,17],[0,1,2,3,4,5,6,7,8,9,10,11,12,13,14,15,16,17,18],[0,1,2,3,4,5,6,7,8,9,10,11,12,13,14,15,16,17,18,19],[0,1,2,3,4,5,6,7,8,9,10,11,12,13,14,15,16,17,18,19,20],[0,1,2,3,4,5,6,7,8,9,10,11,12,13,14,15,16,17,18,19,20,21],[0,1,2,3,4,5,6,7,8,9,10,11,12,13,14,15,16,17,18,19,20,21,22],[0,1,2,3,4,5,6,7,8,9,10,11,12,13,14,15,16,17,18,19,20,21,22,23],[0,1,2,3,4,5,6,7,8,9,10,11,12,13,14,15,16,17,18,19,20,21,22,23,24],[0,1,2,3,4,5,6,7,8,9,10,11,12,13,14,15,16,17,18,19,20,21,22,23,24,25],[0,1,2,3,4,5,6,7,8,9,10,11,12,13,14,15,16,17,18,19,20,21,22,23,24,25,26],[0,1,2,3,4,5,6,7,8,9,10,11,12,13,14,15,16,17,18,19,20,21,22,23,24,25,26,27],[0,1,2,3,4,5,6,7,8,9,10,11,12,13,14,15,16,17,18,19,20,21,22,23,24,25,26,27,28],[0,1,2,3,4,5,6,7,8,9,10,11,12,13,14,15,16,17,18,19,20,21,22,23,24,25,26,27,28,29],[0,1,2,3,4,5,6,7,8,9,10,11,12,13,14,15,16,17,18,19,20,21,22,23,24,25,26,27,28,29,30],[0,1,2,3,4,5,6,7,8,9,10,11,12,13,14,15,16,17,18,19,20,21,22,23,24,25,26,27,28,29,30,31],[0,1,2,3,4,5,6,7,8,9,10,11,12,13,14,15,16,17,18,19,20,21,22,23,24,25,26,27,28,29,30,31],[0,1,2,3,4,5,6,7,8,9,10,11,12,13,14,15,16,17,18,19,20,21,22,23,24,25,26,27,28,29,30,31,33],[0,1,2,3,4,5,6,7,8,9,10,11,12,13,14,15,16,17,18,19,20,21,22,23,24,25,26,27,28,29,30,31,32,33,34],[0,1,2,3,4,5,6,7,8,9,10,11,12,13,14,15,16,17,18,19,20,21,22,
 23,24,25,26,27,28,29,30,31],[0,1,2,3,4,5,6,7,8,9,10,11,12,13,14,15,16,17,18,19,20,21,22,23,24,25,26,27,28,29,30,31,36],[0,1,2,3,4,5,6,7,8,9,10,11,12,13,14,15,16,17,18,19,20,21,22,23,24,25,26,27,28,29,30,31],[0,1,2,3,4,5,6,7,8,9,10,11,12,13,14,15,16,17,18,19,20,21,22,23,24,25,26,27,28,29,30,31,38],[0,1,2,3,4,5,6,7,8,9,10,11,12,13,14,15,16,17,18,19,20,21,22,23,24,25,26,27,28,29,30,31,38,39],[0,1,2,3,4,5,6,7,8,9,10,11,12,13,14,15,16,17,18,19,20,21,22,23,24,25,26,27,28,29,30,31,36,37,38,39,40],[0,1,2,3,4,5,6,7,8,9,10,11,12,13,14,15,16,17,18,19,20,21,22,23,24,25,26,27,28,29,30,31,36,37,38,39,40,41],[0,1,2,3,4,5,6,7,8,9,10,11,12,13,14,15,16,17,18,19,20,21,22,23,24,25,26,27,28,29,30,31,36,37,38,39,40,41,42],[0,1,2,3,4,5,6,7,8,9,10,11,12,13,14,15,16,17,18,19,20,21,22,23,24,25,26,27,28,29,30,31,32,33,34,35,36,37,38,39,40,41,42,43],[0,1,2,3,4,5,6,7,8,9,10,11,12,13,14,15,16,17,18,19,20,21,22,23,24,25,26,27,28,29,30,31,32,33,34,35,36,37,38,39,40,41,42,43,44]]) [jm 22 5,jb 23 .gtr .i 22 (ki 0),jm 24 23,ju 25 24 (.mv 1),ju 26 24 (.mv 5),ju 27 24 (.bin .sub .i 26 (ki 1)),ju 28 24 (.ia 4 25 27),ju 29 24 (.ld true 4 28),ju 30 24 (.ld true 4 6),ju 31 24 (.call 34 true [29,30]),ju 32 24 (.bin .geq .i 31 (ki 0)),jq 33 (.pick 24 32 kf),jm 34 33,jv 35 34 (.ld true 3 2),jv 36 34 (.fa 1 6),jv 37 34 (.ld true 2 36),jv 38 34 (.call 35 true [35,37]),jv 39 34 (.not 38),jq 40 (.pick 34 kt 39),jm 41 40,jv 42 41 (.fa 0 6),jv 43 41 (.ld false 1 42),jv 44 41 (.call 36 true [43,(ki 1),(ki 9999)]),jv 45 41 (.not 44),jq 46 (.pick 41 kt 45),jm 47 46,jv 48 47 (.fa 3 6),jv 49 47 (.ld false 1 48),jv 50 47 (.call 36 true [49,(ki 1),(ki 1000000)]),jv 51 47 (.not 50),jq 52 (.pick 47 kt 51),jm 53 52,jv 54 53 (.mv 1),jv 55 53 (.fa 1 6),jv 56 53 (.ld true 2 55),jv 57 53 (.call 37 true [54,56]),jv 58 53 (.fa 0 2),jv 59 53 (.ld false 1 58),jv 60 53 (.fa 1 6),jv 61 53 (.fa 0 60),jv 62 53 (.ld false 1 61),jv 63 53 (.ia 6 59 62),jv 64 53 (.fa 5 63),jv 65 53 (.ld false 1 64),jv 66 53 (.bin .gtr .i 57 65),jq 67 (.pick 53 kt 66)] [1,2,15,16,17,67]) (.cond 67 (js [jm 4 kf] [4] .ret) .skip)))) (.reg none [jb 68 .add .i 17 (ki 1),jm 17 68] [1,2,15,16,17])))))) (js [jm 4 kt] [4] .ret)))
def rv19:List RV:=[.t 4]
def aY (g:G) (t:TE) (a0:Network) (a1:List Booking):List Booking→Int→Option (LR Bool Unit)
 |[],v1=>
  some (LR.out ())
 |z1::ls1,v1=>
  br (g.lt 0 v1)
  (
   gd (((0:Int)≤(g.wrap .i64 (g.sub v1 1))))<|
   gt a1 (g.nat (g.wrap .i64 (g.sub v1 1))) fun x2=>
   lP (bT g t (Booking.mk x2.Thing (Trip.mk x2.Trip.Leg x2.Trip.Day) x2.Weight) (Booking.mk z1.Thing (Trip.mk z1.Trip.Leg z1.Trip.Day) z1.Weight)) fun x3=>
   br (g.le 0 x3)
   (
    some (LR.ret false))
   (
    cl (ig g t a0 (Trip.mk z1.Trip.Leg z1.Trip.Day)) fun x4=>
    br x4
    (
     lP (ct g t z1.Thing 1 9999) fun x5=>
     br x5
     (
      lP (ct g t z1.Weight 1 1000000) fun x6=>
      br x6
      (
       lP (cI g t a1 (Trip.mk z1.Trip.Leg z1.Trip.Day)) fun x7=>
       gd (((0:Int)≤z1.Trip.Leg))<|
       gt a0.Legs (g.nat z1.Trip.Leg) fun x8=>
       br (g.lt x8.Room x7)
       (
        some (LR.ret false))
       (
        aY g t a0 a1 ls1 (g.wrap .i64 (g.add v1 1))))
      (
       some (LR.ret false)))
     (
      some (LR.ret false)))
    (
     some (LR.ret false))))
  (
   cl (ig g t a0 (Trip.mk z1.Trip.Leg z1.Trip.Day)) fun x9=>
   br x9
   (
    lP (ct g t z1.Thing 1 9999) fun x10=>
    br x10
    (
     lP (ct g t z1.Weight 1 1000000) fun x11=>
     br x11
     (
      lP (cI g t a1 (Trip.mk z1.Trip.Leg z1.Trip.Day)) fun x12=>
      gd (((0:Int)≤z1.Trip.Leg))<|
      gt a0.Legs (g.nat z1.Trip.Leg) fun x13=>
      br (g.lt x13.Room x12)
      (
       some (LR.ret false))
      (
       aY g t a0 a1 ls1 (g.wrap .i64 (g.add v1 1))))
     (
      some (LR.ret false)))
    (
     some (LR.ret false)))
   (
    some (LR.ret false)))
def ec (g:G) (t:TE) (a0:Network) (a1:List Booking):Option Bool:=
 cl (di g t a0) fun x1=>
 br x1
 (
  br (g.lt 120 (g.llen (t.r_Booking a1)))
  (
   some false)
  (
   cl (aY g t a0 a1 a1 0) fun o1=>lr o1 fun y1=>
   some true))
 (
  some false)
theorem ny {g:G} {t:TE} {a0:Network} {a1:List Booking} {r:Bool} (hg:g=G.real) (ht:t=TE.real) (h:ec g t a0 a1=some r):Fn Try.prog 19 [.g (Network.rs t a0),.c (.s 4 (t.r_Booking a1))] (.c (.r (.v (.bool r)))):=by
 obtain⟨X,hX⟩:=aO (.c (.r (.v (.bool r))):X);rw[←hX];refine aN (rvs:=rv19) (j:=ir19) Try.func19 rfl (by kernel_rfl) (nb rfl) (by kernel_rfl) ac ?_;intro g2 F hg2 hF;obtain rfl:g2=g:=hg2.unique.trans hg.symm;clear hg2;obtain⟨wrap,lt,le,_,_,_,_,_,_,_,_,_,_,add,_,_,_,_,_,_,_,llen⟩:=g2;obtain⟨_,_,r_Booking,_,r_Leg,_,r_I64⟩:=t
 obtain⟨a0_Legs,a0_Off,a0_Change⟩:=a0;unfold ec at h;try dsimp only at h
 cbv;obtain⟨x1,hx1,h⟩:=ae h;try dsimp only at h
 refine ACall.mk _ _ rfl (hF _ _ _ (gT hg ht hx1)) (.inl rfl) (nb rfl) ?_;cbv
 cases hb1:x1
 ·rw[aa hb1] at h;cbv;iterate 3 try(rw[hb1];cbv)
  obtain rfl:=Option.some.inj h;exact ARet.mk trivial hX.symm
 rw[ab hb1] at h;cbv;iterate 3 try(rw[hb1];cbv)
 cases hb2:(lt 120 (llen (r_Booking a1)))
 rotate_left
 ·rw[ab hb2] at h;cbv;obtain rfl:=Option.some.inj h;exact ARet.mk trivial hX.symm
 rw[aa hb2] at h;cbv;obtain⟨o1,ho1,h⟩:=ae h;try dsimp only at h
 try rw[hg] at ho1
 try rw[ht] at ho1
 refine ABL.mk {p:Nat×Int//p.1≤a1.length∧p.2=((p.1:Nat):Int)∧aY G.real TE.real (Network.mk a0_Legs a0_Off a0_Change) a1 (List.drop p.1 a1) p.2=some o1} (fun⟨⟨k1,v1⟩,_⟩=>({sl:=[(1,.c (.r (.s 4 (r_Booking a1)))),(2,.c (.p 0 3 0 0)),(15,.c (.r (.s 4 (r_Booking a1)))),(16,.c (.r (.v (.int .i64 (llen (r_Booking a1)))))),(17,.c (.r (.v (.int .i64 v1))))],tab:=[(0,some (.foc 3 [] [.r (.s 6 (r_Leg a0_Legs)),.r (.s 1 (r_I64 a0_Off)),.r (.v (.int .i64 a0_Change))] []))]}:St)) 1 (fun p=>a1.length-p.1.1) ⟨(0,0),Nat.zero_le _,rfl,ho1⟩ (Unit) (fun _=>({sl:=[],tab:=[]}:St)) 0 (fun y=>o1=LR.out y) ?_ ?_ ?_
 ·refine Wk.of [(0,some 0)] rfl rfl ?_ ?_
  ·cbv;all_goals exact⟨⟨_,rfl,rfl⟩,⟨_,rfl,rfl⟩,⟨_,rfl,rfl⟩,⟨_,rfl,rfl⟩,⟨_,rfl,rfl⟩,trivial⟩
  cbv;all_goals exact⟨⟨_,rfl,_,rfl,rfl,rfl,rfl,trivial⟩,trivial⟩
 ·rintro⟨⟨k1,v1⟩,hk1,hi1,h_1⟩ hq1;have hm1:=(hq1.1 1 _ _ rfl);try dsimp only at hk1 hi1 h_1
  clear hq1;cbv
  by_cases hc1_:k1<a1.length
  ·have hb3:lt v1 (llen (r_Booking a1))=true:=cr hg ht hi1 hc1_;have hs1:=du hg ht hi1 hc1_ hm1;obtain⟨z1,hz1⟩:=av hc1_;rw[ao hz1] at h_1;rw[aY] at h_1;obtain⟨z1_Thing,⟨z1_Trip_Leg,z1_Trip_Day⟩,z1_Weight⟩:=z1;try rw[←hg] at h_1
   try rw[←ht] at h_1
   try dsimp only at h_1
   rw[hb3];cbv;refine AStep.mk (eb hi1) ?_;cbv;refine AGet.mk _ (bP hg ht hi1 hz1) ?_;cbv
   cases hb4:(lt 0 v1)
   ·rw[aa hb4] at h_1;cbv;iterate 8 try(rw[hb4];cbv)
    obtain⟨x9,hx9,h_1⟩:=ae h_1;try dsimp only at h_1
    refine ACall.mk _ _ rfl (hF _ _ _ (oG hg ht hx9)) (.inl rfl) (nb rfl) ?_;cbv
    cases hb10:x9
    ·rw[aa hb10] at h_1;cbv;iterate 4 try(rw[hb10];cbv)
     obtain rfl:=Option.some.inj h_1;try dsimp only[lr,lrL,lrp,aH] at h
     obtain rfl:=Option.some.inj h;exact ARet.mk trivial hX.symm
    rw[ab hb10] at h_1;cbv;iterate 2 try(rw[hb10];cbv)
    obtain⟨x10,hx10,h_1⟩:=af h_1;try dsimp only at h_1
    refine ACall.mk _ _ rfl (hF _ _ _ (cu hg ht hx10)) (.inl rfl) (nb rfl) ?_;cbv;iterate 2 try(rw[hb10];cbv)
    cases hb11:x10
    ·rw[aa hb11] at h_1;cbv;iterate 4 try(rw[hb11];cbv)
     obtain rfl:=Option.some.inj h_1;try dsimp only[lr,lrL,lrp,aH] at h
     obtain rfl:=Option.some.inj h;exact ARet.mk trivial hX.symm
    rw[ab hb11] at h_1;cbv;iterate 2 try(rw[hb11];cbv)
    obtain⟨x11,hx11,h_1⟩:=af h_1;try dsimp only at h_1
    refine ACall.mk _ _ rfl (hF _ _ _ (cu hg ht hx11)) (.inl rfl) (nb rfl) ?_;cbv;iterate 2 try(rw[hb11];cbv)
    cases hb12:x11
    ·rw[aa hb12] at h_1;cbv;iterate 13 try(rw[hb12];cbv)
     obtain rfl:=Option.some.inj h_1;try dsimp only[lr,lrL,lrp,aH] at h
     obtain rfl:=Option.some.inj h;exact ARet.mk trivial hX.symm
    rw[ab hb12] at h_1;cbv;iterate 3 try(rw[hb12];cbv)
    obtain⟨x12,hx12,h_1⟩:=af h_1;try dsimp only at h_1
    refine ACall.mk _ _ rfl (hF _ _ _ (kO hg ht hx12)) (.inl rfl) (nb rfl) ?_;cbv;iterate 6 try(rw[hb12];cbv)
    obtain⟨hc3,h_1⟩:=aj h_1;refine AStep.mk hc3 ?_;cbv;obtain⟨x13,hx13,h_1⟩:=aQ h_1;obtain⟨x13_From,x13_To,x13_Start,x13_Takes,x13_Days,x13_Room⟩:=x13;try dsimp only at h_1
    refine AGet.mk _ (bA hg ht hx13) ?_;cbv;iterate 4 try(rw[hb12];cbv)
    cases hb13:(lt x13_Room x12)
    rotate_left
    ·rw[ab hb13] at h_1;cbv;obtain rfl:=Option.some.inj h_1;try dsimp only[lr,lrL,lrp,aH] at h
     obtain rfl:=Option.some.inj h;exact ARet.mk trivial hX.symm
    rw[aa hb13] at h_1;cbv;try rw[hg] at h_1
    try rw[ht] at h_1
    refine⟨⟨(k1+1,(wrap .i64 (add v1 1))),hc1_,hs1,h_1⟩,Wk.of [(0,some 0)] rfl rfl ?_ ?_,aB hc1_⟩
    ·cbv;all_goals exact⟨⟨_,rfl,rfl⟩,⟨_,rfl,rfl⟩,⟨_,rfl,rfl⟩,⟨_,rfl,rfl⟩,⟨_,rfl,rfl⟩,trivial⟩
    cbv;all_goals exact⟨⟨_,rfl,_,rfl,rfl,rfl,rfl,trivial⟩,trivial⟩
   rw[ab hb4] at h_1;cbv;iterate 3 try(rw[hb4];cbv)
   obtain⟨hc1,h_1⟩:=aj h_1;refine AStep.mk hc1 ?_;cbv;obtain⟨x2,hx2,h_1⟩:=aQ h_1;obtain⟨x2_Thing,⟨x2_Trip_Leg,x2_Trip_Day⟩,x2_Weight⟩:=x2;try dsimp only at h_1
   refine AGet.mk _ (gW hg ht hx2) ?_;cbv;iterate 3 try(rw[hb4];cbv)
   obtain⟨x3,hx3,h_1⟩:=af h_1;try dsimp only at h_1
   refine ACall.mk _ _ rfl (hF _ _ _ (j7 hg ht hx3)) (.inl rfl) (nb rfl) ?_;cbv;iterate 2 try(rw[hb4];cbv)
   cases hb5:(le 0 x3)
   rotate_left
   ·rw[ab hb5] at h_1;cbv;iterate 5 try(rw[hb5];cbv)
    obtain rfl:=Option.some.inj h_1;try dsimp only[lr,lrL,lrp,aH] at h
    obtain rfl:=Option.some.inj h;exact ARet.mk trivial hX.symm
   rw[aa hb5] at h_1;cbv;iterate 3 try(rw[hb5];cbv)
   obtain⟨x4,hx4,h_1⟩:=ae h_1;try dsimp only at h_1
   refine ACall.mk _ _ rfl (hF _ _ _ (oG hg ht hx4)) (.inl rfl) (nb rfl) ?_;cbv;iterate 2 try(rw[hb5];cbv)
   cases hb6:x4
   ·rw[aa hb6] at h_1;cbv;iterate 4 try(rw[hb6];cbv)
    obtain rfl:=Option.some.inj h_1;try dsimp only[lr,lrL,lrp,aH] at h
    obtain rfl:=Option.some.inj h;exact ARet.mk trivial hX.symm
   rw[ab hb6] at h_1;cbv;iterate 2 try(rw[hb6];cbv)
   obtain⟨x5,hx5,h_1⟩:=af h_1;try dsimp only at h_1
   refine ACall.mk _ _ rfl (hF _ _ _ (cu hg ht hx5)) (.inl rfl) (nb rfl) ?_;cbv;iterate 2 try(rw[hb6];cbv)
   cases hb7:x5
   ·rw[aa hb7] at h_1;cbv;iterate 4 try(rw[hb7];cbv)
    obtain rfl:=Option.some.inj h_1;try dsimp only[lr,lrL,lrp,aH] at h
    obtain rfl:=Option.some.inj h;exact ARet.mk trivial hX.symm
   rw[ab hb7] at h_1;cbv;iterate 2 try(rw[hb7];cbv)
   obtain⟨x6,hx6,h_1⟩:=af h_1;try dsimp only at h_1
   refine ACall.mk _ _ rfl (hF _ _ _ (cu hg ht hx6)) (.inl rfl) (nb rfl) ?_;cbv;iterate 2 try(rw[hb7];cbv)
   cases hb8:x6
   ·rw[aa hb8] at h_1;cbv;iterate 13 try(rw[hb8];cbv)
    obtain rfl:=Option.some.inj h_1;try dsimp only[lr,lrL,lrp,aH] at h
    obtain rfl:=Option.some.inj h;exact ARet.mk trivial hX.symm
   rw[ab hb8] at h_1;cbv;iterate 3 try(rw[hb8];cbv)
   obtain⟨x7,hx7,h_1⟩:=af h_1;try dsimp only at h_1
   refine ACall.mk _ _ rfl (hF _ _ _ (kO hg ht hx7)) (.inl rfl) (nb rfl) ?_;cbv;iterate 6 try(rw[hb8];cbv)
   obtain⟨hc2,h_1⟩:=aj h_1;refine AStep.mk hc2 ?_;cbv;obtain⟨x8,hx8,h_1⟩:=aQ h_1;obtain⟨x8_From,x8_To,x8_Start,x8_Takes,x8_Days,x8_Room⟩:=x8;try dsimp only at h_1
   refine AGet.mk _ (bA hg ht hx8) ?_;cbv;iterate 4 try(rw[hb8];cbv)
   cases hb9:(lt x8_Room x7)
   rotate_left
   ·rw[ab hb9] at h_1;cbv;obtain rfl:=Option.some.inj h_1;try dsimp only[lr,lrL,lrp,aH] at h
    obtain rfl:=Option.some.inj h;exact ARet.mk trivial hX.symm
   rw[aa hb9] at h_1;cbv;try rw[hg] at h_1
   try rw[ht] at h_1
   refine⟨⟨(k1+1,(wrap .i64 (add v1 1))),hc1_,hs1,h_1⟩,Wk.of [(0,some 0)] rfl rfl ?_ ?_,aB hc1_⟩
   ·cbv;all_goals exact⟨⟨_,rfl,rfl⟩,⟨_,rfl,rfl⟩,⟨_,rfl,rfl⟩,⟨_,rfl,rfl⟩,⟨_,rfl,rfl⟩,trivial⟩
   cbv;all_goals exact⟨⟨_,rfl,_,rfl,rfl,rfl,rfl,trivial⟩,trivial⟩
  have hb3:lt v1 (llen (r_Booking a1))=false:=bS hg ht hi1 hc1_;rw[List.drop_of_length_le (Nat.le_of_not_lt hc1_)] at h_1;rw[aY] at h_1;try rw[←hg] at h_1
  try rw[←ht] at h_1
  try dsimp only at h_1
  rw[hb3];cbv;refine⟨(),Wk.of [] rfl rfl ?_ ?_,(Option.some.inj h_1).symm⟩
  ·cbv;all_goals exact trivial
  cbv;all_goals exact trivial
 rintro _ hy1;replace hy1:=hy1.symm;subst hy1;try dsimp only[lr,lrL,lrp,aH] at h
 cbv;obtain rfl:=Option.some.inj h;exact ARet.mk trivial hX.symm
end Go.Vs
namespace Go.Proofs
open Go.RowKit Go.Sort
set_option maxHeartbeats 2000000
set_option maxRecDepth 100000
def Try.lays192_ren : Go.Shelf.Ren := ⟨fun | 192 => 63 | 190 => 76 | 125 => 80 | 258 => 79 | 128 => 91 | 129 => 92 | 302 => 82 | 303 => 83 | 304 => 84 | 305 => 85 | 306 => 86 | 307 => 87 | 308 => 88 | 309 => 89 | 310 => 90 | 333 => 93 | 329 => 94 | 330 => 95 | 334 => 96 | 335 => 97 | 336 => 98 | 344 => 99 | n => n, fun | 31 => 53 | 0 => 0 | 9 => 9 | 3 => 3 | 46 => 100 | 51 => 114 | 53 => 116 | 4 => 4 | 183 => 106 | 182 => 105 | 131 => 111 | 5 => 5 | 218 => 117 | 222 => 121 | 228 => 123 | 229 => 124 | n => n, fun | n => n⟩
theorem Try.lays192 : Go.Proofs.Lays.n192 Try.prog Try.lays192_ren := {
  mixed := by kernel_rfl
  f125 := Try.func80.trans (congrArg some (by kernel_rfl))
  f128 := Try.func91.trans (congrArg some (by kernel_rfl))
  f129 := Try.func92.trans (congrArg some (by kernel_rfl))
  f190 := Try.func76.trans (congrArg some (by kernel_rfl))
  f192 := Try.func63.trans (congrArg some (by kernel_rfl))
  f258 := Try.func79.trans (congrArg some (by kernel_rfl))
  f302 := Try.func82.trans (congrArg some (by kernel_rfl))
  f303 := Try.func83.trans (congrArg some (by kernel_rfl))
  f304 := Try.func84.trans (congrArg some (by kernel_rfl))
  f305 := Try.func85.trans (congrArg some (by kernel_rfl))
  f306 := Try.func86.trans (congrArg some (by kernel_rfl))
  f307 := Try.func87.trans (congrArg some (by kernel_rfl))
  f308 := Try.func88.trans (congrArg some (by kernel_rfl))
  f309 := Try.func89.trans (congrArg some (by kernel_rfl))
  f310 := Try.func90.trans (congrArg some (by kernel_rfl))
  f329 := Try.func94.trans (congrArg some (by kernel_rfl))
  f330 := Try.func95.trans (congrArg some (by kernel_rfl))
  f333 := Try.func93.trans (congrArg some (by kernel_rfl))
  f334 := Try.func96.trans (congrArg some (by kernel_rfl))
  f335 := Try.func97.trans (congrArg some (by kernel_rfl))
  f336 := Try.func98.trans (congrArg some (by kernel_rfl))
  f344 := Try.func99.trans (congrArg some (by kernel_rfl))
  t0 := Try.underlying0
  a0 := Try.isAgg0
  z0 := Try.sizeOf0
  v0 := Try.zeroValue0
  t3 := Try.underlying3
  a3 := Try.isAgg3
  z3 := Try.sizeOf3
  v3 := Try.zeroValue3
  t4 := Try.underlying4
  a4 := Try.isAgg4
  z4 := Try.sizeOf4
  v4 := Try.zeroValue4
  t5 := Try.underlying5
  a5 := Try.isAgg5
  z5 := Try.sizeOf5
  v5 := Try.zeroValue5
  t9 := Try.underlying9
  a9 := Try.isAgg9
  z9 := Try.sizeOf9
  v9 := Try.zeroValue9
  t31 := Try.underlying53
  a31 := Try.isAgg53
  z31 := Try.sizeOf53
  v31 := Try.zeroValue53
  t46 := Try.underlying100
  a46 := Try.isAgg100
  z46 := Try.sizeOf100
  v46 := Try.zeroValue100
  t51 := Try.underlying114
  a51 := Try.isAgg114
  z51 := Try.sizeOf114
  v51 := Try.zeroValue114
  t53 := Try.underlying116
  a53 := Try.isAgg116
  z53 := Try.sizeOf116
  v53 := Try.zeroValue116
  t131 := Try.underlying111
  a131 := Try.isAgg111
  z131 := Try.sizeOf111
  v131 := Try.zeroValue111
  t182 := Try.underlying105
  a182 := Try.isAgg105
  z182 := Try.sizeOf105
  v182 := Try.zeroValue105
  t183 := Try.underlying106
  a183 := Try.isAgg106
  z183 := Try.sizeOf106
  v183 := Try.zeroValue106
  t218 := Try.underlying117
  a218 := Try.isAgg117
  z218 := Try.sizeOf117
  v218 := Try.zeroValue117
  t222 := Try.underlying121
  a222 := Try.isAgg121
  z222 := Try.sizeOf121
  v222 := Try.zeroValue121
  t228 := Try.underlying123
  a228 := Try.isAgg123
  z228 := Try.sizeOf123
  v228 := Try.zeroValue123
  t229 := Try.underlying124
  a229 := Try.isAgg124
  z229 := Try.sizeOf124
  v229 := Try.zeroValue124 }
theorem Try.insS_nil (p:Option Addr) (cap:Nat) (w:World):
 Calls Try.prog 82 #[.slice p 0 cap,.int .i64 0,.int .i64 0] w fun e w'=>e=.returned (.tuple #[])∧w'=w:=by
 go_enter Try.func82,Try.ntmps82
 go_wp2
 refine wp_loop_rounds 1 ?_
 rw[rounds_succ]
 go_wp2
 go_end0
 exact⟨rfl,rfl⟩
theorem Try.pdqS_nil (p:Option Addr) (cap:Nat) (w:World):
 Calls Try.prog 79 #[.slice p 0 cap,.int .i64 0,.int .i64 0,.int .i64 0] w fun e w'=>e=.returned (.tuple #[])∧w'=w:=by
 go_enter Try.func79,Try.ntmps79
 go_wp2
 refine wp_loop_rounds 1 ?_
 rw[rounds_succ]
 go_wp2_with (first|(go_at_call 82;refine(Try.insS_nil p cap _).mono ?_;rintro e w' ⟨rfl,rfl⟩))
 refine bodyPost_ret (results_none rfl _ _ _) rfl ?_
 exact⟨rfl,rfl⟩
theorem Try.sortS_nil (p:Option Addr) (cap:Nat) (w:World):
 Calls Try.prog 76 #[.slice p 0 cap] w fun e w'=>e=.returned (.tuple #[])∧w'=w:=by
 have hLen:∀w,Calls Try.prog 80 #[.int .u64 0] w fun e w'=>e=.returned (.int .i64 0)∧w'=w:=fun w=>calls_of_every_depth fun D=>AnyS.bits_LenInS {Try.lays192 with} D 0 w (by omega) (by omega)
 go_enter Try.func76,Try.ntmps76
 go_wp2_with (first
  |(go_at_call 80;refine(hLen _).mono ?_;rintro e w' ⟨rfl,rfl⟩)
  |(go_at_call 79;refine(Try.pdqS_nil p cap _).mono ?_;rintro e w' ⟨rfl,rfl⟩))
 go_end0
 exact⟨rfl,rfl⟩
theorem Try.strs_nil (p:Option Addr) (cap:Nat) (w:World):
 Calls Try.prog 63 #[.slice p 0 cap] w fun e w'=>e=.returned (.tuple #[])∧w'=w:=by
 go_enter Try.func63,Try.ntmps63
 go_wp2_with (first|(go_at_call 76;refine(Try.sortS_nil p cap _).mono ?_;rintro e w' ⟨rfl,rfl⟩))
 go_end0
 exact⟨rfl,rfl⟩
end Go.Proofs
namespace Go.Vs
open Go.Proofs Go.RowKit
set_option linter.unusedVariables false
def gr (g:G) (t:TE) (a0:List ByteArray):Option (List ByteArray):=gd (a0.length<4611686018427387904)<|some (ku a0)
theorem mE {g:G} {t:TE} {a0 r:List ByteArray} (hg:g=G.real) (ht:t=TE.real) (h:gr g t a0=some r):FnM Try.prog 63 (.m (.o 1 (t.d_S a0))) [] (.u []) (.m (.o 1 (t.d_S r))):=by
 obtain⟨hl,h⟩:=aj h;cases h
 subst ht;exact vq a0 hl (fun blk cap w hH hb=>calls_of_every_depth fun D=>AnyS.sort_Strings_in Try.lays192 D blk 0 cap (a0.map bOf) w hH hb (by simpa using hl)) (fun e w=>Try.strs_nil none 0 w)
set_option maxRecDepth 100000
def ir38:J:=js [jq 1 (.box 0),jq 2 (.mv (.k (.c (.n 1))))] [1] (js [jq 9 (.mkm true),jm 3 9] [1,3] (js [jq 10 (.bsl 1 []),jm 4 10] [1,3,4] (.seq (js [jf 11 0 1,jk 12 11,jq 13 (.len false 12),jm 14 (ki 0)] [3,4,12,13,14] (.bl 0 (js [jb 15 .lss .i 14 13] [3,4,12,13,14,15] (.seq (.cond 15 .skip (.exit 0)) (.seq (.block 1 (js [ja 16 6 12 14,jl 17 6 16,jq 6 (.alloc [.r (.v (.string .empty)),.r (.v (.string .empty)),.r (.v (.int .i64 0)),.r (.v (.int .i64 0)),.r (.v (.int .i64 0)),.r (.v (.int .i64 0))]),jp (.st 6 6 17)] [3,4,6,12,13,14] (js [jf 18 0 6,jk 19 18,jf 20 1 6,jk 21 20,jq 22 (.bsl 1 [19,21]),jq 23 (.len false 22),jm 24 (ki 0)] [3,4,12,13,14,22,23,24] (.bl 2 (js [jb 25 .lss .i 24 23] [3,4,12,13,14,22,23,24,25] (.seq (.cond 25 .skip (.exit 2)) (.seq (.block 3 (js [ja 26 1 22 24,jk 27 26,jm 8 27] [3,4,8,12,13,14,22,23,24] (js [jm 28 3,jm 29 8,jq 30 (.mlk true 28 29),jq 31 (.not 30)] [3,4,8,12,13,14,22,23,24,31] (.cond 31 (js [jm 32 3,jm 33 8,jp (.mup true 32 33)] [3,4,8,12,13,14,22,23,24] (.reg none [jm 34 4,jm 35 8,jq 36 (.bsl 1 [35]),jq 37 (.app 1 16 true 34 36),jm 4 37] [3,4,12,13,14,22,23,24])) .skip)))) (.reg none [jb 38 .add .i 24 (ki 1),jm 24 38] [3,4,12,13,14,22,23,24])))))))) (.reg none [jb 39 .add .i 14 (ki 1),jm 14 39] [3,4,12,13,14])))))) (js [jm 40 4,jq 41 (.callm 63 true 40 [])] [4] (js [jm 42 4,jm 2 42] [2] .ret)))))
def rv38:List RV:=[.t 2]
open Go.Proofs Go.IntWalk
set_option maxHeartbeats 4000000
def bK (g:G) (t:TE) (l2:List ByteArray):Nat→Int→List ByteArray→List ByteArray→Option ((List ByteArray)×List ByteArray)
 |0,v2,w3,w4=>
  some (w3,w4)
 |n2+1,v2,w3,w4=>
  gt l2 (g.nat v2) fun x1=>
  br (g.hasS w3 x1)
  (
   bK g t l2 n2 (g.wrap .i64 (g.add v2 1)) w3 w4)
  (
   lP ([x1]) fun(l3:List ByteArray)=>
   gd (((w4.length+l3.length)*16≤70368744177664))<|
   lP (w4++l3) fun(l4:List ByteArray)=>
   bK g t l2 n2 (g.wrap .i64 (g.add v2 1)) (g.putS w3 x1) l4)
def bZ (g:G) (t:TE):List Leg→List ByteArray→List ByteArray→Option (List ByteArray)
 |[],w1,w2=>
  some w2
 |z1::ls1,w1,w2=>
  lP ([z1.From,z1.To]) fun(l2:List ByteArray)=>
  gd (((g.int (g.dlen (t.d_S l2)))≤9223372036854775807))<|
  cl (bK g t l2 (aS 0 (g.int (g.dlen (t.d_S l2)))) 0 w1 w2) fun y1=>
  bZ g t ls1 y1.1 y1.2
def fv (g:G) (t:TE) (a0:Network):Option (List ByteArray):=
 lP ([]) fun(l1:List ByteArray)=>
 cl (bZ g t a0.Legs [] l1) fun y2=>
 cl (gr g t y2) fun x2=>
 gd ((x2.length=y2.length))<|
 some x2
theorem lu {g:G} {t:TE} {a0:Network} {r:List ByteArray} (hg:g=G.real) (ht:t=TE.real) (h:fv g t a0=some r):Fn Try.prog 38 [.g (Network.rs t a0)] (.c (.o 1 (t.d_S r))):=by
 obtain⟨X,hX⟩:=aO (.c (.o 1 (t.d_S r)):X);rw[←hX];refine aN (rvs:=rv38) (j:=ir38) Try.func38 rfl (by kernel_rfl) (nb rfl) (by kernel_rfl) ac ?_;intro g2 F hg2 hF;obtain rfl:g2=g:=hg2.unique.trans hg.symm;clear hg2;obtain⟨wrap,lt,_,_,_,_,_,_,_,_,_,_,int,add,_,_,_,_,_,_,_,llen,_,_,dlen,_,_,_,_,_,_,_,_,_,_,_,_,_,hasS,putS⟩:=g2;obtain⟨_,_,_,_,r_Leg,_,_,_,_,_,_,_,_,d_S⟩:=t
 obtain⟨a0_Legs,a0_Off,a0_Change⟩:=a0;unfold fv at h;try dsimp only at h
 cbv;obtain⟨l1,hl1,h⟩:=af h;try dsimp only at h
 refine ANew.mk (d_S l1) (dlen (d_S l1)) (by rw[←hl1];exact hZ hg ht []) (by rw[←hl1];exact fW hg ht []) ?_;cbv;obtain⟨o1,ho1,h⟩:=ae h;try dsimp only at h
 try rw[hg] at ho1
 try rw[ht] at ho1
 refine ABL.mk {p:Nat×Int×(List ByteArray)×List ByteArray//p.1≤a0_Legs.length∧p.2.1=((p.1:Nat):Int)∧bZ G.real TE.real (List.drop p.1 a0_Legs) p.2.2.1 p.2.2.2=some o1} (fun⟨⟨k1,v1,w1,w2⟩,_⟩=>({sl:=[(3,.c (.m 0)),(4,.c (.f 1 1 0 (dlen (d_S w2)))),(12,.c (.r (.s 6 (r_Leg a0_Legs)))),(13,.c (.r (.v (.int .i64 (llen (r_Leg a0_Legs)))))),(14,.c (.r (.v (.int .i64 v1))))],tab:=[(0,some (.ms w1)),(1,some (.arr 1 (d_S w2)))]}:St)) 2 (fun p=>a0_Legs.length-p.1.1) ⟨(0,0,[],l1),Nat.zero_le _,rfl,ho1⟩ (List ByteArray) (fun y2=>({sl:=[(4,.c (.f 0 1 0 (dlen (d_S y2))))],tab:=[(0,some (.arr 1 (d_S y2)))]}:St)) 1 (fun y=>o1=y) ?_ ?_ ?_
 ·refine Wk.of [(0,some 32),(1,some 64)] rfl rfl ?_ ?_
  ·cbv;all_goals exact⟨⟨_,rfl,rfl⟩,⟨_,rfl,rfl⟩,⟨_,rfl,rfl⟩,⟨_,rfl,rfl⟩,⟨_,rfl,rfl⟩,trivial⟩
  cbv;all_goals exact⟨⟨_,rfl,rfl⟩,⟨_,rfl,rfl⟩,trivial⟩
 ·rintro⟨⟨k1,v1,w1,w2⟩,hk1,hi1,h_1⟩ hq1;have hm1:=(hq1.1 12 _ _ rfl);try dsimp only at hk1 hi1 h_1
  clear hq1;cbv
  by_cases hc1_:k1<a0_Legs.length
  ·have hb1:lt v1 (llen (r_Leg a0_Legs))=true:=cC hg ht hi1 hc1_;have hs1:=eI hg ht hi1 hc1_ hm1;obtain⟨z1,hz1⟩:=av hc1_;rw[ao hz1] at h_1;rw[bZ] at h_1;obtain⟨z1_From,z1_To,z1_Start,z1_Takes,z1_Days,z1_Room⟩:=z1;try rw[←hg] at h_1
   try rw[←ht] at h_1
   try dsimp only at h_1
   rw[hb1];cbv;refine AStep.mk (eb hi1) ?_;cbv;refine AGet.mk _ (cS hg ht hi1 hz1) ?_;cbv;obtain⟨l2,hl2,h_1⟩:=af h_1;try dsimp only at h_1
   refine ANew.mk (d_S l2) (dlen (d_S l2)) (by rw[←hl2];exact hZ hg ht [z1_From,z1_To]) (by rw[←hl2];exact fW hg ht [z1_From,z1_To]) ?_;cbv;obtain⟨hB2,h_1⟩:=aj h_1;obtain⟨o2,ho2,h_1⟩:=ae h_1;try dsimp only at h_1
   try rw[hg] at ho2
   try rw[ht] at ho2
   refine ABL.mk {p:Nat×Int×(List ByteArray)×List ByteArray//p.1=aS p.2.1 (int (dlen (d_S l2)))∧0≤p.2.1∧bK G.real TE.real l2 p.1 p.2.1 p.2.2.1 p.2.2.2=some o2} (fun⟨⟨n2,v2,w3,w4⟩,_⟩=>({sl:=[(3,.c (.m 0)),(4,.c (.f 1 1 0 (dlen (d_S w4)))),(12,.c (.r (.s 6 (r_Leg a0_Legs)))),(13,.c (.r (.v (.int .i64 (llen (r_Leg a0_Legs)))))),(14,.c (.r (.v (.int .i64 v1)))),(22,.c (.f 2 1 0 (dlen (d_S l2)))),(23,.c (.r (.v (.int .i64 (int (dlen (d_S l2))))))),(24,.c (.r (.v (.int .i64 v2))))],tab:=[(0,some (.ms w3)),(1,some (.arr 1 (d_S w4))),(2,some (.arr 1 (d_S l2)))]}:St)) 3 (fun p=>p.1.1) ⟨(aS 0 (int (dlen (d_S l2))),0,w1,w2),rfl,Int.le_refl _,ho2⟩ ((List ByteArray)×List ByteArray) (fun⟨y1_1,y1_2⟩=>({sl:=[(3,.c (.m 0)),(4,.c (.f 1 1 0 (dlen (d_S y1_2)))),(12,.c (.r (.s 6 (r_Leg a0_Legs)))),(13,.c (.r (.v (.int .i64 (llen (r_Leg a0_Legs)))))),(14,.c (.r (.v (.int .i64 v1))))],tab:=[(0,some (.ms y1_1)),(1,some (.arr 1 (d_S y1_2)))]}:St)) 2 (fun y=>o2=y) ?_ ?_ ?_
   ·refine Wk.of [(0,some 0),(1,some 1),(2,some 146)] rfl rfl ?_ ?_
    ·cbv;all_goals exact⟨⟨_,rfl,rfl⟩,⟨_,rfl,rfl⟩,⟨_,rfl,rfl⟩,⟨_,rfl,rfl⟩,⟨_,rfl,rfl⟩,⟨_,rfl,rfl⟩,⟨_,rfl,rfl⟩,⟨_,rfl,rfl⟩,trivial⟩
    cbv;all_goals exact⟨⟨_,rfl,rfl⟩,⟨_,rfl,rfl⟩,⟨_,rfl,rfl⟩,trivial⟩
   ·rintro⟨⟨n2,v2,w3,w4⟩,hn2,hi2,h_2⟩ hq2;try dsimp only at hn2 hi2 h_2
    clear hq2;cbv;rcases n2 with _|n2
    ·have hb2:lt v2 (int (dlen (d_S l2)))=false:=dT hg hn2;rw[bK] at h_2;try rw[←hg] at h_2
     try rw[←ht] at h_2
     try dsimp only at h_2
     rw[hb2];cbv;refine⟨(w3,w4),Wk.of [(0,some 0),(1,some 1)] rfl rfl ?_ ?_,(Option.some.inj h_2).symm⟩
     ·cbv;all_goals exact⟨⟨_,rfl,rfl⟩,⟨_,rfl,rfl⟩,⟨_,rfl,rfl⟩,⟨_,rfl,rfl⟩,⟨_,rfl,rfl⟩,trivial⟩
     cbv;all_goals exact⟨⟨_,rfl,rfl⟩,⟨_,rfl,rfl⟩,trivial⟩
    have hb2:lt v2 (int (dlen (d_S l2)))=true:=e7 hg hn2;have hl2:=iS hn2;have hs2:=f9 hg hn2 hi2 hB2 (by decide);rw[bK] at h_2;try rw[←hg] at h_2
    try rw[←ht] at h_2
    try dsimp only at h_2
    rw[hb2];cbv;refine AStep.mk (tO hg hi2 hl2) ?_;cbv;obtain⟨x1,hx1,h_2⟩:=aQ h_2;try dsimp only at h_2
    refine AGet.mk _ (jT hg ht hx1) ?_;cbv
    cases hb3:(hasS w3 x1)
    rotate_left
    ·rw[ab hb3] at h_2;cbv;try rw[hg] at h_2
     try rw[ht] at h_2
     refine⟨⟨(n2,(wrap .i64 (add v2 1)),w3,w4),hs2.1,hs2.2,h_2⟩,Wk.of [(0,some 0),(1,some 1),(2,some 2)] rfl rfl ?_ ?_,Nat.lt_succ_self _⟩
     ·cbv;all_goals exact⟨⟨_,rfl,rfl⟩,⟨_,rfl,rfl⟩,⟨_,rfl,rfl⟩,⟨_,rfl,rfl⟩,⟨_,rfl,rfl⟩,⟨_,rfl,rfl⟩,⟨_,rfl,rfl⟩,⟨_,rfl,rfl⟩,trivial⟩
     cbv;all_goals exact⟨⟨_,rfl,rfl⟩,⟨_,rfl,rfl⟩,⟨_,rfl,rfl⟩,trivial⟩
    rw[aa hb3] at h_2;cbv;obtain⟨l3,hl3,h_2⟩:=af h_2;try dsimp only at h_2
    refine ANew.mk (d_S l3) (dlen (d_S l3)) (by rw[←hl3];exact hZ hg ht [x1]) (by rw[←hl3];exact fW hg ht [x1]) ?_;cbv;obtain⟨hc1,h_2⟩:=aj h_2;refine AStep.mk ⟨⟨rfl,(an hg ht _)⟩,(da hg ht (an hg ht _) rfl hc1)⟩ ?_;cbv;obtain⟨l4,hl4,h_2⟩:=af h_2;try dsimp only at h_2
    refine ANew.mk (d_S l4) (dlen (d_S l4)) (by rw[←hl4];exact im hg ht (an hg ht _) rfl) (by rw[←hl4];exact fz hg ht (an hg ht _) rfl) ?_;cbv;try rw[hg] at h_2
    try rw[ht] at h_2
    refine⟨⟨(n2,(wrap .i64 (add v2 1)),(putS w3 x1),l4),hs2.1,hs2.2,h_2⟩,Wk.of [(0,some 0),(1,some 227),(2,some 2)] rfl rfl ?_ ?_,Nat.lt_succ_self _⟩
    ·cbv;all_goals exact⟨⟨_,rfl,rfl⟩,⟨_,rfl,rfl⟩,⟨_,rfl,rfl⟩,⟨_,rfl,rfl⟩,⟨_,rfl,rfl⟩,⟨_,rfl,rfl⟩,⟨_,rfl,rfl⟩,⟨_,rfl,rfl⟩,trivial⟩
    cbv;all_goals exact⟨⟨_,rfl,rfl⟩,⟨_,rfl,rfl⟩,⟨_,rfl,rfl⟩,trivial⟩
   rintro⟨y1_1,y1_2⟩ hy2;replace hy2:=hy2.symm;subst hy2;try dsimp only[lr,lrL,lrp,aH] at h_1
   cbv;try rw[hg] at h_1
   try rw[ht] at h_1
   refine⟨⟨(k1+1,(wrap .i64 (add v1 1)),y1_1,y1_2),hc1_,hs1,h_1⟩,Wk.of [(0,some 0),(1,some 1)] rfl rfl ?_ ?_,aB hc1_⟩
   ·cbv;all_goals exact⟨⟨_,rfl,rfl⟩,⟨_,rfl,rfl⟩,⟨_,rfl,rfl⟩,⟨_,rfl,rfl⟩,⟨_,rfl,rfl⟩,trivial⟩
   cbv;all_goals exact⟨⟨_,rfl,rfl⟩,⟨_,rfl,rfl⟩,trivial⟩
  have hb1:lt v1 (llen (r_Leg a0_Legs))=false:=cf hg ht hi1 hc1_;rw[List.drop_of_length_le (Nat.le_of_not_lt hc1_)] at h_1;rw[bZ] at h_1;try rw[←hg] at h_1
  try rw[←ht] at h_1
  try dsimp only at h_1
  rw[hb1];cbv;refine⟨w2,Wk.of [(0,some 1)] rfl rfl ?_ ?_,(Option.some.inj h_1).symm⟩
  ·cbv;all_goals exact⟨⟨_,rfl,rfl⟩,trivial⟩
  cbv;all_goals exact⟨⟨_,rfl,rfl⟩,trivial⟩
 rintro y2 hy1;replace hy1:=hy1.symm;subst hy1;try dsimp only[lr,lrL,lrp,aH] at h
 cbv;refine AStep.mk ⟨rfl,(an hg ht _)⟩ ?_;cbv;obtain⟨x2,hx2,h⟩:=ae h;try dsimp only at h
 refine ACallM.mk _ _ _ _ rfl rfl (hF _ _ _ (mE hg ht hx2)) rfl (nb rfl) (nb rfl) ?_;cbv;obtain⟨hc2,h⟩:=aj h;obtain rfl:=Option.some.inj h;exact ARet.mk ⟨rfl,(zZ ht (an hg ht _) hc2)⟩ hX.symm
def ir39:J:=js [jm 4 (ki 0)] [0,1] (.seq (js [jm 7 0,jq 8 (.len false 7),jm 9 (ki 0)] [1,7,8,9] (.bl 0 (js [jb 10 .lss .i 9 8] [1,7,8,9,10] (.seq (.cond 10 .skip (.exit 0)) (.seq (.block 1 (js [jm 11 9,ja 12 1 7 9,jk 13 12,jm 5 11,jm 6 13] [1,5,6,7,8,9] (js [jm 14 6,jm 15 1,jb 16 .eql .s 14 15] [1,5,7,8,9,16] (.cond 16 (js [jm 17 5,jm 4 17] [4] .ret) .skip)))) (.reg none [jb 18 .add .i 9 (ki 1),jm 9 18] [1,7,8,9])))))) (js [jq 4 (.mv (.k (V.i (-1))))] [4] .ret))
def rv39:List RV:=[.t 4]
def bx (g:G) (t:TE) (a1:ByteArray):List ByteArray→Int→LR Int Unit
 |[],v1=>
  (LR.out ())
 |z1::ls1,v1=>
  br (g.seq z1 a1)
  (
   (LR.ret v1))
  (
   bx g t a1 ls1 (g.wrap .i64 (g.add v1 1)))
def dc (g:G) (t:TE) (a0:List ByteArray) (a1:ByteArray):Int:=
 lP (bx g t a1 a0 0) fun o1=>lrp o1 fun y1=>
 (-1)
theorem ez {g:G} {t:TE} {a0:List ByteArray} {a1:ByteArray} {r:Int} (hg:g=G.real) (ht:t=TE.real) (h:dc g t a0 a1=r):Fn Try.prog 39 [.c (.s 1 (t.r_S a0)),.c (.v (.string a1))] (.c (.r (.v (.int .i64 r)))):=by
 obtain⟨X,hX⟩:=aO (.c (.r (.v (.int .i64 r))):X);rw[←hX];refine aN (rvs:=rv39) (j:=ir39) Try.func39 rfl (by kernel_rfl) (nb rfl) (by kernel_rfl) ac ?_;intro g2 F hg2 hF;obtain rfl:g2=g:=hg2.unique.trans hg.symm;clear hg2;obtain⟨wrap,lt,_,_,_,_,_,_,_,_,_,_,_,add,_,_,_,seq,_,_,_,llen⟩:=g2;obtain⟨_,_,_,_,_,_,_,_,_,_,_,_,r_S⟩:=t
 unfold dc at h;try dsimp only at h
 cbv;obtain⟨o1,ho1,h⟩:=af h;try dsimp only at h
 try rw[hg] at ho1
 try rw[ht] at ho1
 refine ABL.mk {p:Nat×Int//p.1≤a0.length∧p.2=((p.1:Nat):Int)∧bx G.real TE.real a1 (List.drop p.1 a0) p.2=o1} (fun⟨⟨k1,v1⟩,_⟩=>({sl:=[(1,.c (.r (.v (.string a1)))),(7,.c (.r (.s 1 (r_S a0)))),(8,.c (.r (.v (.int .i64 (llen (r_S a0)))))),(9,.c (.r (.v (.int .i64 v1))))],tab:=[]}:St)) 0 (fun p=>a0.length-p.1.1) ⟨(0,0),Nat.zero_le _,rfl,ho1⟩ (Unit) (fun _=>({sl:=[],tab:=[]}:St)) 0 (fun y=>o1=LR.out y) ?_ ?_ ?_
 ·refine Wk.of [] rfl rfl ?_ ?_
  ·cbv;all_goals exact⟨⟨_,rfl,rfl⟩,⟨_,rfl,rfl⟩,⟨_,rfl,rfl⟩,⟨_,rfl,rfl⟩,trivial⟩
  cbv;all_goals exact trivial
 ·rintro⟨⟨k1,v1⟩,hk1,hi1,h_1⟩ hq1;have hm1:=(hq1.1 7 _ _ rfl);try dsimp only at hk1 hi1 h_1
  clear hq1;cbv
  by_cases hc1_:k1<a0.length
  ·have hb1:lt v1 (llen (r_S a0))=true:=kT hg ht hi1 hc1_;have hs1:=rj hg ht hi1 hc1_ hm1;obtain⟨z1,hz1⟩:=av hc1_;rw[ao hz1] at h_1;rw[bx] at h_1;try rw[←hg] at h_1
   try rw[←ht] at h_1
   try dsimp only at h_1
   rw[hb1];cbv;refine AStep.mk (eb hi1) ?_;cbv;refine AGet.mk _ (sS hg ht hi1 hz1) ?_;cbv
   cases hb2:(seq z1 a1)
   rotate_left
   ·rw[ab hb2] at h_1;cbv;subst h_1;try dsimp only[lr,lrL,lrp,aH] at h
    subst h;exact ARet.mk trivial hX.symm
   rw[aa hb2] at h_1;cbv;try rw[hg] at h_1
   try rw[ht] at h_1
   refine⟨⟨(k1+1,(wrap .i64 (add v1 1))),hc1_,hs1,h_1⟩,Wk.of [] rfl rfl ?_ ?_,aB hc1_⟩
   ·cbv;all_goals exact⟨⟨_,rfl,rfl⟩,⟨_,rfl,rfl⟩,⟨_,rfl,rfl⟩,⟨_,rfl,rfl⟩,trivial⟩
   cbv;all_goals exact trivial
  have hb1:lt v1 (llen (r_S a0))=false:=jK hg ht hi1 hc1_;rw[List.drop_of_length_le (Nat.le_of_not_lt hc1_)] at h_1;rw[bx] at h_1;try rw[←hg] at h_1
  try rw[←ht] at h_1
  try dsimp only at h_1
  rw[hb1];cbv;refine⟨(),Wk.of [] rfl rfl ?_ ?_,h_1.symm⟩
  ·cbv;all_goals exact trivial
  cbv;all_goals exact trivial
 rintro _ hy1;replace hy1:=hy1.symm;subst hy1;try dsimp only[lr,lrL,lrp,aH] at h
 cbv;subst h;exact ARet.mk trivial hX.symm
def ir64:J:=js [jq 3 (.box 0),jm 6 (ki 0)] [1,2,3] (.seq (js [jm 7 2] [1,3,7] (.cond 7 (js [jm 8 1,jm 6 8] [6] .ret) .skip)) (js [jm 9 1,jf 10 2 3,jk 11 10,jb 12 .add .i 9 11,jm 6 12] [6] .ret))
def rv64:List RV:=[.t 6]
def eD (g:G) (t:TE) (a0:Network) (a1:Int) (a2:Bool):Int:=
 br a2
 (
  a1)
 (
  (g.wrap .i64 (g.add a1 a0.Change)))
theorem mU {g:G} {t:TE} {a0:Network} {a1:Int} {a2:Bool} {r:Int} (hg:g=G.real) (ht:t=TE.real) (h:eD g t a0 a1 a2=r):Fn Try.prog 64 [.g (Network.rs t a0),.c (.v (.int .i64 a1)),.c (.v (.bool a2))] (.c (.r (.v (.int .i64 r)))):=by
 obtain⟨X,hX⟩:=aO (.c (.r (.v (.int .i64 r))):X);rw[←hX];refine aN (rvs:=rv64) (j:=ir64) Try.func64 rfl (by kernel_rfl) (nb rfl) (by kernel_rfl) ac ?_;intro g2 F hg2 hF;obtain rfl:g2=g:=hg2.unique.trans hg.symm;clear hg2;obtain⟨_⟩:=g2;obtain⟨_⟩:=t
 obtain⟨a0_Legs,a0_Off,a0_Change⟩:=a0;unfold eD at h;try dsimp only at h
 cbv
 cases hb1:a2
 rotate_left
 ·rw[ab hb1] at h;cbv;subst h;exact ARet.mk trivial hX.symm
 rw[aa hb1] at h;cbv;subst h;exact ARet.mk trivial hX.symm
def ir44:J:=js [jq 2 (.box 0),jq 3 (.box 1),jm 4 (ki 0)] [2,3] (.seq (.reg (some [[],[0],[0,1],[],[3],[],[5],[3,4,5,6],[3,4,5,6,7],[3,4,5,6,7,8],[0,1,2,3,4,5,6,7,8,9],[0,1,2,3,4,5,6,7,8,9,10]]) [jf 5 1 3,jk 6 5,jb 7 .mul .i 6 (ki 1440),jf 8 0 2,jk 9 8,jf 10 0 3,jk 11 10,ja 12 6 9 11,jf 13 2 12,jk 14 13,jb 15 .add .i 7 14,jm 4 15] [4]) .ret)
def rv44:List RV:=[.t 4]
def go (g:G) (t:TE) (a0:Network) (a1:Trip):Option Int:=
 gd (((0:Int)≤a1.Leg))<|
 gt a0.Legs (g.nat a1.Leg) fun x1=>
 some (g.wrap .i64 (g.add (g.wrap .i64 (g.mul a1.Day 1440)) x1.Start))
theorem kH {g:G} {t:TE} {a0:Network} {a1:Trip} {r:Int} (hg:g=G.real) (ht:t=TE.real) (h:go g t a0 a1=some r):Fn Try.prog 44 [.g (Network.rs t a0),.g (Trip.rs t a1)] (.c (.r (.v (.int .i64 r)))):=by
 obtain⟨X,hX⟩:=aO (.c (.r (.v (.int .i64 r))):X);rw[←hX];refine aN (rvs:=rv44) (j:=ir44) Try.func44 rfl (by kernel_rfl) (nb rfl) (by kernel_rfl) ac ?_;intro g2 F hg2 hF;obtain rfl:g2=g:=hg2.unique.trans hg.symm;clear hg2;obtain⟨_⟩:=g2;obtain⟨_⟩:=t
 obtain⟨a0_Legs,a0_Off,a0_Change⟩:=a0;obtain⟨a1_Leg,a1_Day⟩:=a1;unfold go at h;try dsimp only at h
 cbv;obtain⟨hc1,h⟩:=aj h;refine AStep.mk hc1 ?_;cbv;obtain⟨x1,hx1,h⟩:=aQ h;obtain⟨x1_From,x1_To,x1_Start,x1_Takes,x1_Days,x1_Room⟩:=x1;try dsimp only at h
 refine AGet.mk _ (bA hg ht hx1) ?_;cbv;obtain rfl:=Option.some.inj h;exact ARet.mk trivial hX.symm
def ir65:J:=js [jq 2 (.box 0),jq 3 (.box 1),jm 4 (ki 0)] [2,3] (.seq (.reg (some [[],[],[0,1],[],[3],[],[5],[3,4,5,6],[3,4,5,6,7],[3,4,5,6,7,8],[0,1,2,3,4,5,6,7,8,9],[0,1,2,3,4,5,6,7,8,9,10]]) [jl 5 3 2,jl 6 2 3,jc 7 44 [5,6],jf 8 0 2,jk 9 8,jf 10 0 3,jk 11 10,ja 12 6 9 11,jf 13 3 12,jk 14 13,jb 15 .add .i 7 14,jm 4 15] [4]) .ret)
def rv65:List RV:=[.t 4]
def i6 (g:G) (t:TE) (a0:Network) (a1:Trip):Option Int:=
 cl (go g t a0 a1) fun x1=>
 gd (((0:Int)≤a1.Leg))<|
 gt a0.Legs (g.nat a1.Leg) fun x2=>
 some (g.wrap .i64 (g.add x1 x2.Takes))
theorem lO {g:G} {t:TE} {a0:Network} {a1:Trip} {r:Int} (hg:g=G.real) (ht:t=TE.real) (h:i6 g t a0 a1=some r):Fn Try.prog 65 [.g (Network.rs t a0),.g (Trip.rs t a1)] (.c (.r (.v (.int .i64 r)))):=by
 obtain⟨X,hX⟩:=aO (.c (.r (.v (.int .i64 r))):X);rw[←hX];refine aN (rvs:=rv65) (j:=ir65) Try.func65 rfl (by kernel_rfl) (nb rfl) (by kernel_rfl) ac ?_;intro g2 F hg2 hF;obtain rfl:g2=g:=hg2.unique.trans hg.symm;clear hg2;obtain⟨_⟩:=g2;obtain⟨_⟩:=t
 obtain⟨a0_Legs,a0_Off,a0_Change⟩:=a0;obtain⟨a1_Leg,a1_Day⟩:=a1;unfold i6 at h;try dsimp only at h
 cbv;obtain⟨x1,hx1,h⟩:=ae h;try dsimp only at h
 refine ACall.mk _ _ rfl (hF _ _ _ (kH hg ht hx1)) (.inl rfl) (nb rfl) ?_;cbv;obtain⟨hc1,h⟩:=aj h;refine AStep.mk hc1 ?_;cbv;obtain⟨x2,hx2,h⟩:=aQ h;obtain⟨x2_From,x2_To,x2_Start,x2_Takes,x2_Days,x2_Room⟩:=x2;try dsimp only at h
 refine AGet.mk _ (bA hg ht hx2) ?_;cbv;obtain rfl:=Option.some.inj h;exact ARet.mk trivial hX.symm
def ir45:J:=js [jq 3 (.box 1),jm 4 kf] [0,3] (.seq (js [jm 7 0,jq 8 (.len false 7),jm 9 (ki 0)] [3,7,8,9] (.bl 0 (js [jb 10 .lss .i 9 8] [3,7,8,9,10] (.seq (.cond 10 .skip (.exit 0)) (.seq (.block 1 (js [ja 11 2 7 9,jl 12 2 11,jq 6 (.alloc [.r (.v (.int .i64 0)),.r (.v (.int .i64 0))]),jp (.st 2 6 12)] [3,6,7,8,9] (js [jl 13 2 6,jl 14 2 3,jq 15 (.eqs false [.i,.i] 13 14)] [3,7,8,9,15] (.cond 15 (js [jm 4 kt] [4] .ret) .skip)))) (.reg none [jb 16 .add .i 9 (ki 1),jm 9 16] [3,7,8,9])))))) (js [jm 4 kf] [4] .ret))
def rv45:List RV:=[.t 4]
def cO (g:G) (t:TE) (a1:Trip):List Trip→LR Bool Unit
 |[]=>
  (LR.out ())
 |z1::ls1=>
  br (g.all [(g.eq z1.Leg a1.Leg),(g.eq z1.Day a1.Day)])
  (
   (LR.ret true))
  (
   cO g t a1 ls1)
def d5 (g:G) (t:TE) (a0:List Trip) (a1:Trip):Bool:=
 lP (cO g t a1 a0) fun o1=>lrp o1 fun y1=>
 false
theorem rV {g:G} {t:TE} {a0:List Trip} {a1:Trip} {r:Bool} (hg:g=G.real) (ht:t=TE.real) (h:d5 g t a0 a1=r):Fn Try.prog 45 [.c (.s 2 (t.r_Trip a0)),.g (Trip.rs t a1)] (.c (.r (.v (.bool r)))):=by
 obtain⟨X,hX⟩:=aO (.c (.r (.v (.bool r))):X);rw[←hX];refine aN (rvs:=rv45) (j:=ir45) Try.func45 rfl (by kernel_rfl) (nb rfl) (by kernel_rfl) ac ?_;intro g2 F hg2 hF;obtain rfl:g2=g:=hg2.unique.trans hg.symm;clear hg2;obtain⟨wrap,lt,_,eq,_,_,_,_,_,_,_,_,_,add,_,_,_,_,_,_,_,llen,_,_,_,_,_,_,_,_,_,_,_,all⟩:=g2;obtain⟨_,_,_,_,_,_,_,_,r_Trip⟩:=t
 obtain⟨a1_Leg,a1_Day⟩:=a1;unfold d5 at h;try dsimp only at h
 cbv;obtain⟨o1,ho1,h⟩:=af h;try dsimp only at h
 try rw[hg] at ho1
 try rw[ht] at ho1
 refine ABL.mk {p:Nat×Int//p.1≤a0.length∧p.2=((p.1:Nat):Int)∧cO G.real TE.real (Trip.mk a1_Leg a1_Day) (List.drop p.1 a0)=o1} (fun⟨⟨k1,v1⟩,_⟩=>({sl:=[(3,.c (.p 0 2 0 0)),(7,.c (.r (.s 2 (r_Trip a0)))),(8,.c (.r (.v (.int .i64 (llen (r_Trip a0)))))),(9,.c (.r (.v (.int .i64 v1))))],tab:=[(0,some (.foc 2 [] [.r (.v (.int .i64 a1_Leg)),.r (.v (.int .i64 a1_Day))] []))]}:St)) 1 (fun p=>a0.length-p.1.1) ⟨(0,0),Nat.zero_le _,rfl,ho1⟩ (Unit) (fun _=>({sl:=[],tab:=[]}:St)) 0 (fun y=>o1=LR.out y) ?_ ?_ ?_
 ·refine Wk.of [(0,some 0)] rfl rfl ?_ ?_
  ·cbv;all_goals exact⟨⟨_,rfl,rfl⟩,⟨_,rfl,rfl⟩,⟨_,rfl,rfl⟩,⟨_,rfl,rfl⟩,trivial⟩
  cbv;all_goals exact⟨⟨_,rfl,_,rfl,rfl,rfl,trivial⟩,trivial⟩
 ·rintro⟨⟨k1,v1⟩,hk1,hi1,h_1⟩ hq1;have hm1:=(hq1.1 7 _ _ rfl);try dsimp only at hk1 hi1 h_1
  clear hq1;cbv
  by_cases hc1_:k1<a0.length
  ·have hb1:lt v1 (llen (r_Trip a0))=true:=fB hg ht hi1 hc1_;have hs1:=iw hg ht hi1 hc1_ hm1;obtain⟨z1,hz1⟩:=av hc1_;rw[ao hz1] at h_1;rw[cO] at h_1;obtain⟨z1_Leg,z1_Day⟩:=z1;try rw[←hg] at h_1
   try rw[←ht] at h_1
   try dsimp only at h_1
   rw[hb1];cbv;refine AStep.mk (eb hi1) ?_;cbv;refine AGet.mk _ (gI hg ht hi1 hz1) ?_;cbv
   cases hb2:(all [(eq z1_Leg a1_Leg),(eq z1_Day a1_Day)])
   rotate_left
   ·rw[ab hb2] at h_1;cbv;subst h_1;try dsimp only[lr,lrL,lrp,aH] at h
    subst h;exact ARet.mk trivial hX.symm
   rw[aa hb2] at h_1;cbv;try rw[hg] at h_1
   try rw[ht] at h_1
   refine⟨⟨(k1+1,(wrap .i64 (add v1 1))),hc1_,hs1,h_1⟩,Wk.of [(0,some 0)] rfl rfl ?_ ?_,aB hc1_⟩
   ·cbv;all_goals exact⟨⟨_,rfl,rfl⟩,⟨_,rfl,rfl⟩,⟨_,rfl,rfl⟩,⟨_,rfl,rfl⟩,trivial⟩
   cbv;all_goals exact⟨⟨_,rfl,_,rfl,rfl,rfl,trivial⟩,trivial⟩
  have hb1:lt v1 (llen (r_Trip a0))=false:=e9 hg ht hi1 hc1_;rw[List.drop_of_length_le (Nat.le_of_not_lt hc1_)] at h_1;rw[cO] at h_1;try rw[←hg] at h_1
  try rw[←ht] at h_1
  try dsimp only at h_1
  rw[hb1];cbv;refine⟨(),Wk.of [] rfl rfl ?_ ?_,h_1.symm⟩
  ·cbv;all_goals exact trivial
  cbv;all_goals exact trivial
 rintro _ hy1;replace hy1:=hy1.symm;subst hy1;try dsimp only[lr,lrL,lrp,aH] at h
 cbv;subst h;exact ARet.mk trivial hX.symm
def ir42:J:=js [jq 8 (.alloc [.r (.v (.int .i64 0)),.r (.v (.int .i64 0))]),jm 9 kf] [0,1,2,3,4,5,8] (.seq (js [jm 10 (ki 0)] [0,1,2,3,4,5,8,10] (.bl 0 (.seq (js [jm 12 10,jb 13 .leq .i 12 (ki 60)] [0,1,2,3,4,5,8,10,13] (.cond 13 .skip (.exit 0))) (.seq (.block 1 (js [jm 16 0,jm 17 10,jq 18 (.bld [.r (.v (.int .i64 0)),.r (.v (.int .i64 0))] [(0,1,16),(1,1,17)]),jq 11 (.alloc [.r (.v (.int .i64 0)),.r (.v (.int .i64 0))]),jp (.st 2 11 18)] [0,1,2,3,4,5,8,10,11] (.seq (.reg (some [[],[],[],[0,1,2],[0,1,2,3],[0,1,2,3,4],[0,1,2,3,4],[0,1,2,3,4,5,6],[0,1,2,3,4],[0,1,2,3,4,5,6,7,8],[0,1,2,3,4,5,6,7,8,9],[0,1,2,3,4,5,6,7,8,9,10],[0,1,2,3,4,5,6,7,8,9,10,11],[0,1,2,3,4,5,6,7,8,9,10,11],[0,1,2,3,4,5,6,7,8,9,10,11,12,13],[0,1,2,3,4,5,6,7,8,9,10,11,12,13,14],[0,1,2,3,4,5,6,7,8,9,10,11,12,13,14,15],[0,1,2,3,4,5,6,7,8,9,10,11,12,13,14,15,16],[0,1,2,3,4,5,6,7,8,9,10,11,12,13,14,15,16,17],[0,1,2,3,4,5,6,7,8,9,10,11,12,13,14,15,16,17,18],[0,1,2,3,4,5,6,7,8,9,10,11,12,13,14,15,16,17],[0,1,2,3,4,5,6,7,8,9,10,11,12,13,14,15,16,17,18,19,20],[0,1,2,3,4,5,6,7,8,9,10,11,12,13,14,15,16,17,18,19,20,21],[0,1,2,3,4,5,6,7,8,9,10,11,12,13,14,15,16,17,18,19,20,21,22],[0,1,2,3,4,5,6,7,8,9,10,11,12,13,14,15,16,17],[0,1,2,3,4,5,6,7,8,9,10,11,12,13,14,15,16,17],[0,1,2,3,4,5,6,7,8,9,10,11,12,13,14,15,16,17,24,25],[0,1,2,3,4,5,6,7,8,9,10,11,12,13,14,15,16,17,18,19,20,21,22,23,24,25,26],[0,1,2,3,4,5,6,7,8,9,10,11,12,13,14,15,16,17],[0,1,2,3,4,5,6,7,8,9,10,11,12,13,14,15,16,17,18,19,20,21,22,23,24,25,26,27,28],[0,1,2,3,4,5,6,7,8,9,10,11,12,13,14,15,16,17,18,19,20,21,22,23,24,25,26,27,28,29]]) [jl 19 3 2,jm 20 0,jm 21 10,jc 22 43 [19,20,21],jm 23 22,ju 24 23 (.ld true 3 2),ju 25 23 (.ld true 2 11),ju 26 23 (.call 44 true [24,25]),ju 27 23 (.mv 1),ju 28 23 (.bin .geq .i 26 27),jq 29 (.pick 23 28 kf),jm 30 29,ju 31 30 (.ld false 1 3),ju 32 30 (.ld true 2 11),ju 33 30 (.call 45 true [31,32]),ju 34 30 (.not 33),jq 35 (.pick 30 34 kf),jm 36 35,ju 37 36 (.fa 0 2),ju 38 36 (.ld false 1 37),ju 39 36 (.mv 0),ju 40 36 (.ia 6 38 39),ju 41 36 (.fa 5 40),ju 42 36 (.ld false 1 41),ju 43 36 (.ld false 1 4),ju 44 36 (.ld true 2 11),ju 45 36 (.call 37 true [43,44]),ju 46 36 (.bin .sub .i 42 45),ju 47 36 (.ld false 1 5),ju 48 36 (.bin .geq .i 46 47),jq 49 (.pick 36 48 kf)] [0,1,2,3,4,5,8,10,11,49]) (.cond 49 (js [jl 50 2 11,jp (.st 2 8 50),jm 9 kt] [8,9] .ret) .skip)))) (.reg none [jm 14 10,jb 15 .add .i 14 (ki 1),jm 10 15] [0,1,2,3,4,5,8,10]))))) (js [jq 51 (.bld [.r (.v (.int .i64
 0)),.r (.v (.int .i64 0))] []),jp (.st 2 8 51),jm 9 kf] [8,9] .ret))
def rv42:List RV:=[.c 8 true 2,.t 9]
def bd (g:G) (t:TE) (a0:Int) (a1:Int) (a2:Network) (a3:List Trip) (a4:List Booking) (a5:Int):Nat→Int→Option (LR (Trip×Bool) Unit)
 |0,v1=>
  some (LR.out ())
 |n1+1,v1=>
  cl (jh g t a2 a0 v1) fun x1=>
  br x1
  (
   cl (go g t a2 (Trip.mk a0 v1)) fun x2=>
   br (g.le a1 x2)
   (
    lP (d5 g t a3 (Trip.mk a0 v1)) fun x3=>
    br x3
    (
     bd g t a0 a1 a2 a3 a4 a5 n1 (g.wrap .i64 (g.add v1 1)))
    (
     gd (((0:Int)≤a0))<|
     gt a2.Legs (g.nat a0) fun x4=>
     lP (cI g t a4 (Trip.mk a0 v1)) fun x5=>
     br (g.le a5 (g.wrap .i64 (g.sub x4.Room x5)))
     (
      some (LR.ret (((Trip.mk a0 v1),true))))
     (
      bd g t a0 a1 a2 a3 a4 a5 n1 (g.wrap .i64 (g.add v1 1)))))
   (
    bd g t a0 a1 a2 a3 a4 a5 n1 (g.wrap .i64 (g.add v1 1))))
  (
   bd g t a0 a1 a2 a3 a4 a5 n1 (g.wrap .i64 (g.add v1 1)))
def I_freeOf_1 (g:G) (t:TE) (a0:Int) (a1:Int) (a2:Network) (a3:List Trip) (a4:List Booking) (a5:Int):Option (Trip×Bool):=
 cl (bd g t a0 a1 a2 a3 a4 a5 (ci 0 60) 0) fun o1=>lr o1 fun y1=>
 some (((Trip.mk 0 0),false))
theorem rh {g:G} {t:TE} {a0:Int} {a1:Int} {a2:Network} {a3:List Trip} {a4:List Booking} {a5:Int} {r:Trip×Bool} (hg:g=G.real) (ht:t=TE.real) (h:I_freeOf_1 g t a0 a1 a2 a3 a4 a5=some r):Fn Try.prog 42 [.c (.v (.int .i64 a0)),.c (.v (.int .i64 a1)),.q (Network.rs t a2),.q [.s 2 (t.r_Trip a3)],.q [.s 4 (t.r_Booking a4)],.q [.v (.int .i64 a5)]] (.u [.g (Trip.ds t r.1),.c (.r (.v (.bool r.2)))]):=by
 obtain⟨X,hX⟩:=aO (.u [.g (Trip.ds t r.1),.c (.r (.v (.bool r.2)))]:X);rw[←hX];refine aN (rvs:=rv42) (j:=ir42) Try.func42 rfl (by kernel_rfl) (nb rfl) (by kernel_rfl) ac ?_;intro g2 F hg2 hF;obtain rfl:g2=g:=hg2.unique.trans hg.symm;clear hg2;obtain⟨wrap,_,le,_,_,_,_,_,_,_,_,_,_,add,sub⟩:=g2;obtain⟨_,_,r_Booking,_,r_Leg,_,r_I64,_,r_Trip⟩:=t
 obtain⟨a2_Legs,a2_Off,a2_Change⟩:=a2;unfold I_freeOf_1 at h;try dsimp only at h
 cbv;obtain⟨o1,ho1,h⟩:=ae h;try dsimp only at h
 try rw[hg] at ho1
 try rw[ht] at ho1
 refine ABL.mk {p:Nat×Int//p.1=ci p.2 60∧0≤p.2∧bd G.real TE.real a0 a1 (Network.mk a2_Legs a2_Off a2_Change) a3 a4 a5 p.1 p.2=some o1} (fun⟨⟨n1,v1⟩,_⟩=>({sl:=[(0,.c (.r (.v (.int .i64 a0)))),(1,.c (.r (.v (.int .i64 a1)))),(2,.q [(.s 6 (r_Leg a2_Legs)),(.s 1 (r_I64 a2_Off)),(.v (.int .i64 a2_Change))]),(3,.q [(.s 2 (r_Trip a3))]),(4,.q [(.s 4 (r_Booking a4))]),(5,.q [(.v (.int .i64 a5))]),(8,.c (.p 0 2 0 0)),(10,.c (.r (.v (.int .i64 v1))))],tab:=[(0,some (.foc 2 [] [.r (.v (.int .i64 0)),.r (.v (.int .i64 0))] []))]}:St)) 1 (fun p=>p.1.1) ⟨(ci 0 60,0),rfl,Int.le_refl _,ho1⟩ (Unit) (fun _=>({sl:=[(8,.c (.p 0 2 0 0))],tab:=[(0,some (.foc 2 [] [.r (.v (.int .i64 0)),.r (.v (.int .i64 0))] []))]}:St)) 1 (fun y=>o1=LR.out y) ?_ ?_ ?_
 ·refine Wk.of [(0,some 0)] rfl rfl ?_ ?_
  ·cbv;all_goals exact⟨⟨_,rfl,rfl⟩,⟨_,rfl,rfl⟩,⟨_,rfl,rfl⟩,⟨_,rfl,rfl⟩,trivial⟩
  cbv;all_goals exact⟨⟨_,rfl,_,rfl,rfl,rfl,trivial⟩,trivial⟩
 ·rintro⟨⟨n1,v1⟩,hn1,hi1,h_1⟩ hq1;try dsimp only at hn1 hi1 h_1
  clear hq1;cbv;rcases n1 with _|n1
  ·have hb1:le v1 60=false:=hM hg hn1;rw[bd] at h_1;try rw[←hg] at h_1
   try rw[←ht] at h_1
   try dsimp only at h_1
   rw[hb1];cbv;refine⟨(),Wk.of [(0,some 0)] rfl rfl ?_ ?_,(Option.some.inj h_1).symm⟩
   ·cbv;all_goals exact⟨⟨_,rfl,rfl⟩,trivial⟩
   cbv;all_goals exact⟨⟨_,rfl,_,rfl,rfl,rfl,trivial⟩,trivial⟩
  have hb1:le v1 60=true:=jg hg hn1;have hl1:=oN hn1;have hs1:=ln hg hn1 hi1 (by decide) (by decide);rw[bd] at h_1;try rw[←hg] at h_1
  try rw[←ht] at h_1
  try dsimp only at h_1
  rw[hb1];cbv;obtain⟨x1,hx1,h_1⟩:=ae h_1;try dsimp only at h_1
  refine ACall.mk _ _ rfl (hF _ _ _ (pc hg ht hx1)) (.inl rfl) (nb rfl) ?_;cbv
  cases hb2:x1
  ·rw[aa hb2] at h_1;cbv;iterate 5 try(rw[hb2];cbv)
   try rw[hg] at h_1
   try rw[ht] at h_1
   refine⟨⟨(n1,(wrap .i64 (add v1 1))),hs1.1,hs1.2,h_1⟩,Wk.of [(0,some 0)] rfl rfl ?_ ?_,Nat.lt_succ_self _⟩
   ·cbv;all_goals exact⟨⟨_,rfl,rfl⟩,⟨_,rfl,rfl⟩,⟨_,rfl,rfl⟩,⟨_,rfl,rfl⟩,trivial⟩
   cbv;all_goals exact⟨⟨_,rfl,_,rfl,rfl,rfl,trivial⟩,trivial⟩
  rw[ab hb2] at h_1;cbv;iterate 2 try(rw[hb2];cbv)
  obtain⟨x2,hx2,h_1⟩:=ae h_1;try dsimp only at h_1
  refine ACall.mk _ _ rfl (hF _ _ _ (kH hg ht hx2)) (.inl rfl) (nb rfl) ?_;cbv;iterate 3 try(rw[hb2];cbv)
  cases hb3:(le a1 x2)
  ·rw[aa hb3] at h_1;cbv;iterate 4 try(rw[hb3];cbv)
   try rw[hg] at h_1
   try rw[ht] at h_1
   refine⟨⟨(n1,(wrap .i64 (add v1 1))),hs1.1,hs1.2,h_1⟩,Wk.of [(0,some 0)] rfl rfl ?_ ?_,Nat.lt_succ_self _⟩
   ·cbv;all_goals exact⟨⟨_,rfl,rfl⟩,⟨_,rfl,rfl⟩,⟨_,rfl,rfl⟩,⟨_,rfl,rfl⟩,trivial⟩
   cbv;all_goals exact⟨⟨_,rfl,_,rfl,rfl,rfl,trivial⟩,trivial⟩
  rw[ab hb3] at h_1;cbv;iterate 2 try(rw[hb3];cbv)
  obtain⟨x3,hx3,h_1⟩:=af h_1;try dsimp only at h_1
  refine ACall.mk _ _ rfl (hF _ _ _ (rV hg ht hx3)) (.inl rfl) (nb rfl) ?_;cbv;iterate 2 try(rw[hb3];cbv)
  cases hb4:x3
  rotate_left
  ·rw[ab hb4] at h_1;cbv;iterate 12 try(rw[hb4];cbv)
   try rw[hg] at h_1
   try rw[ht] at h_1
   refine⟨⟨(n1,(wrap .i64 (add v1 1))),hs1.1,hs1.2,h_1⟩,Wk.of [(0,some 0)] rfl rfl ?_ ?_,Nat.lt_succ_self _⟩
   ·cbv;all_goals exact⟨⟨_,rfl,rfl⟩,⟨_,rfl,rfl⟩,⟨_,rfl,rfl⟩,⟨_,rfl,rfl⟩,trivial⟩
   cbv;all_goals exact⟨⟨_,rfl,_,rfl,rfl,rfl,trivial⟩,trivial⟩
  rw[aa hb4] at h_1;cbv;iterate 3 try(rw[hb4];cbv)
  obtain⟨hc1,h_1⟩:=aj h_1;refine AStep.mk hc1 ?_;cbv;obtain⟨x4,hx4,h_1⟩:=aQ h_1;obtain⟨x4_From,x4_To,x4_Start,x4_Takes,x4_Days,x4_Room⟩:=x4;try dsimp only at h_1
  refine AGet.mk _ (bA hg ht hx4) ?_;cbv;iterate 5 try(rw[hb4];cbv)
  obtain⟨x5,hx5,h_1⟩:=af h_1;try dsimp only at h_1
  refine ACall.mk _ _ rfl (hF _ _ _ (kO hg ht hx5)) (.inl rfl) (nb rfl) ?_;cbv;iterate 4 try(rw[hb4];cbv)
  cases hb5:(le a5 (wrap .i64 (sub x4_Room x5)))
  rotate_left
  ·rw[ab hb5] at h_1;cbv;obtain rfl:=Option.some.inj h_1;try dsimp only[lr,lrL,lrp,aH] at h
   obtain rfl:=Option.some.inj h;exact ARet.mk trivial hX.symm
  rw[aa hb5] at h_1;cbv;try rw[hg] at h_1
  try rw[ht] at h_1
  refine⟨⟨(n1,(wrap .i64 (add v1 1))),hs1.1,hs1.2,h_1⟩,Wk.of [(0,some 0)] rfl rfl ?_ ?_,Nat.lt_succ_self _⟩
  ·cbv;all_goals exact⟨⟨_,rfl,rfl⟩,⟨_,rfl,rfl⟩,⟨_,rfl,rfl⟩,⟨_,rfl,rfl⟩,trivial⟩
  cbv;all_goals exact⟨⟨_,rfl,_,rfl,rfl,rfl,trivial⟩,trivial⟩
 rintro _ hy1;replace hy1:=hy1.symm;subst hy1;try dsimp only[lr,lrL,lrp,aH] at h
 cbv;obtain rfl:=Option.some.inj h;exact ARet.mk trivial hX.symm
def ir54:J:=js [jq 3 (.box 0),jq 6 (.alloc [.r (.v (.int .i64 0)),.r (.v (.int .i64 0))]),jm 7 kf] [1,2,3,6] (.seq (js [jm 8 (ki 0)] [1,2,3,6,8] (.bl 0 (.seq (js [jm 10 8,jb 11 .leq .i 10 (ki 60)] [1,2,3,6,8,11] (.cond 11 .skip (.exit 0))) (.seq (.block 1 (js [jm 14 1,jm 15 8,jq 16 (.bld [.r (.v (.int .i64 0)),.r (.v (.int .i64 0))] [(0,1,14),(1,1,15)]),jq 9 (.alloc [.r (.v (.int .i64 0)),.r (.v (.int .i64 0))]),jp (.st 2 9 16)] [1,2,3,6,8,9] (js [jl 17 3 3,jm 18 1,jm 19 8,jc 20 43 [17,18,19],jm 21 20,ju 22 21 (.ld true 3 3),ju 23 21 (.ld true 2 9),ju 24 21 (.call 44 true [22,23]),ju 25 21 (.mv 2),ju 26 21 (.bin .geq .i 24 25),jq 27 (.pick 21 26 kf)] [1,2,3,6,8,9,27] (.cond 27 (js [jl 28 2 9,jp (.st 2 6 28),jm 7 kt] [6,7] .ret) .skip)))) (.reg none [jm 12 8,jb 13 .add .i 12 (ki 1),jm 8 13] [1,2,3,6,8]))))) (js [jq 29 (.bld [.r (.v (.int .i64 0)),.r (.v (.int .i64 0))] []),jp (.st 2 6 29),jm 7 kf] [6,7] .ret))
def rv54:List RV:=[.c 6 true 2,.t 7]
def dR (g:G) (t:TE) (a0:Network) (a1:Int) (a2:Int):Nat→Int→Option (LR (Trip×Bool) Unit)
 |0,v1=>
  some (LR.out ())
 |n1+1,v1=>
  cl (jh g t a0 a1 v1) fun x1=>
  br x1
  (
   cl (go g t a0 (Trip.mk a1 v1)) fun x2=>
   br (g.le a2 x2)
   (
    some (LR.ret (((Trip.mk a1 v1),true))))
   (
    dR g t a0 a1 a2 n1 (g.wrap .i64 (g.add v1 1))))
  (
   dR g t a0 a1 a2 n1 (g.wrap .i64 (g.add v1 1)))
def ow (g:G) (t:TE) (a0:Network) (a1:Int) (a2:Int):Option (Trip×Bool):=
 cl (dR g t a0 a1 a2 (ci 0 60) 0) fun o1=>lr o1 fun y1=>
 some (((Trip.mk 0 0),false))
theorem yu {g:G} {t:TE} {a0:Network} {a1:Int} {a2:Int} {r:Trip×Bool} (hg:g=G.real) (ht:t=TE.real) (h:ow g t a0 a1 a2=some r):Fn Try.prog 54 [.g (Network.rs t a0),.c (.v (.int .i64 a1)),.c (.v (.int .i64 a2))] (.u [.g (Trip.ds t r.1),.c (.r (.v (.bool r.2)))]):=by
 obtain⟨X,hX⟩:=aO (.u [.g (Trip.ds t r.1),.c (.r (.v (.bool r.2)))]:X);rw[←hX];refine aN (rvs:=rv54) (j:=ir54) Try.func54 rfl (by kernel_rfl) (nb rfl) (by kernel_rfl) ac ?_;intro g2 F hg2 hF;obtain rfl:g2=g:=hg2.unique.trans hg.symm;clear hg2;obtain⟨wrap,_,le,_,_,_,_,_,_,_,_,_,_,add⟩:=g2;obtain⟨_,_,_,_,r_Leg,_,r_I64⟩:=t
 obtain⟨a0_Legs,a0_Off,a0_Change⟩:=a0;unfold ow at h;try dsimp only at h
 cbv;obtain⟨o1,ho1,h⟩:=ae h;try dsimp only at h
 try rw[hg] at ho1
 try rw[ht] at ho1
 refine ABL.mk {p:Nat×Int//p.1=ci p.2 60∧0≤p.2∧dR G.real TE.real (Network.mk a0_Legs a0_Off a0_Change) a1 a2 p.1 p.2=some o1} (fun⟨⟨n1,v1⟩,_⟩=>({sl:=[(1,.c (.r (.v (.int .i64 a1)))),(2,.c (.r (.v (.int .i64 a2)))),(3,.c (.p 0 3 0 0)),(6,.c (.p 1 2 0 0)),(8,.c (.r (.v (.int .i64 v1))))],tab:=[(0,some (.foc 3 [] [.r (.s 6 (r_Leg a0_Legs)),.r (.s 1 (r_I64 a0_Off)),.r (.v (.int .i64 a0_Change))] [])),(1,some (.foc 2 [] [.r (.v (.int .i64 0)),.r (.v (.int .i64 0))] []))]}:St)) 2 (fun p=>p.1.1) ⟨(ci 0 60,0),rfl,Int.le_refl _,ho1⟩ (Unit) (fun _=>({sl:=[(6,.c (.p 0 2 0 0))],tab:=[(0,some (.foc 2 [] [.r (.v (.int .i64 0)),.r (.v (.int .i64 0))] []))]}:St)) 1 (fun y=>o1=LR.out y) ?_ ?_ ?_
 ·refine Wk.of [(0,some 0),(1,some 16)] rfl rfl ?_ ?_
  ·cbv;all_goals exact⟨⟨_,rfl,rfl⟩,⟨_,rfl,rfl⟩,⟨_,rfl,rfl⟩,⟨_,rfl,rfl⟩,⟨_,rfl,rfl⟩,trivial⟩
  cbv;all_goals exact⟨⟨_,rfl,_,rfl,rfl,rfl,rfl,trivial⟩,⟨_,rfl,_,rfl,rfl,rfl,trivial⟩,trivial⟩
 ·rintro⟨⟨n1,v1⟩,hn1,hi1,h_1⟩ hq1;try dsimp only at hn1 hi1 h_1
  clear hq1;cbv;rcases n1 with _|n1
  ·have hb1:le v1 60=false:=hM hg hn1;rw[dR] at h_1;try rw[←hg] at h_1
   try rw[←ht] at h_1
   try dsimp only at h_1
   rw[hb1];cbv;refine⟨(),Wk.of [(0,some 1)] rfl rfl ?_ ?_,(Option.some.inj h_1).symm⟩
   ·cbv;all_goals exact⟨⟨_,rfl,rfl⟩,trivial⟩
   cbv;all_goals exact⟨⟨_,rfl,_,rfl,rfl,rfl,trivial⟩,trivial⟩
  have hb1:le v1 60=true:=jg hg hn1;have hl1:=oN hn1;have hs1:=ln hg hn1 hi1 (by decide) (by decide);rw[dR] at h_1;try rw[←hg] at h_1
  try rw[←ht] at h_1
  try dsimp only at h_1
  rw[hb1];cbv;obtain⟨x1,hx1,h_1⟩:=ae h_1;try dsimp only at h_1
  refine ACall.mk _ _ rfl (hF _ _ _ (pc hg ht hx1)) (.inl rfl) (nb rfl) ?_;cbv
  cases hb2:x1
  ·rw[aa hb2] at h_1;cbv;iterate 5 try(rw[hb2];cbv)
   try rw[hg] at h_1
   try rw[ht] at h_1
   refine⟨⟨(n1,(wrap .i64 (add v1 1))),hs1.1,hs1.2,h_1⟩,Wk.of [(0,some 0),(1,some 1)] rfl rfl ?_ ?_,Nat.lt_succ_self _⟩
   ·cbv;all_goals exact⟨⟨_,rfl,rfl⟩,⟨_,rfl,rfl⟩,⟨_,rfl,rfl⟩,⟨_,rfl,rfl⟩,⟨_,rfl,rfl⟩,trivial⟩
   cbv;all_goals exact⟨⟨_,rfl,_,rfl,rfl,rfl,rfl,trivial⟩,⟨_,rfl,_,rfl,rfl,rfl,trivial⟩,trivial⟩
  rw[ab hb2] at h_1;cbv;iterate 2 try(rw[hb2];cbv)
  obtain⟨x2,hx2,h_1⟩:=ae h_1;try dsimp only at h_1
  refine ACall.mk _ _ rfl (hF _ _ _ (kH hg ht hx2)) (.inl rfl) (nb rfl) ?_;cbv;iterate 3 try(rw[hb2];cbv)
  cases hb3:(le a2 x2)
  rotate_left
  ·rw[ab hb3] at h_1;cbv;obtain rfl:=Option.some.inj h_1;try dsimp only[lr,lrL,lrp,aH] at h
   obtain rfl:=Option.some.inj h;exact ARet.mk trivial hX.symm
  rw[aa hb3] at h_1;cbv;try rw[hg] at h_1
  try rw[ht] at h_1
  refine⟨⟨(n1,(wrap .i64 (add v1 1))),hs1.1,hs1.2,h_1⟩,Wk.of [(0,some 0),(1,some 1)] rfl rfl ?_ ?_,Nat.lt_succ_self _⟩
  ·cbv;all_goals exact⟨⟨_,rfl,rfl⟩,⟨_,rfl,rfl⟩,⟨_,rfl,rfl⟩,⟨_,rfl,rfl⟩,⟨_,rfl,rfl⟩,trivial⟩
  cbv;all_goals exact⟨⟨_,rfl,_,rfl,rfl,rfl,rfl,trivial⟩,⟨_,rfl,_,rfl,rfl,rfl,trivial⟩,trivial⟩
 rintro _ hy1;replace hy1:=hy1.symm;subst hy1;try dsimp only[lr,lrL,lrp,aH] at h
 cbv;obtain rfl:=Option.some.inj h;exact ARet.mk trivial hX.symm
def ir53:J:=js [jq 5 (.alloc [.r (.v (.int .i64 0)),.r (.v (.int .i64 0))]),jm 6 kf] [0,1,2,5] (js [jl 10 3 2,jm 11 0,jm 12 1,jc 13 54 [10,11,12],jm 9 13,jq 14 (.ext 0 9),jq 15 (.ext 1 9),jq 7 (.alloc [.r (.v (.int .i64 0)),.r (.v (.int .i64 0))]),jp (.st 2 7 14),jm 8 15] [5,7,8] (js [jl 16 2 7,jm 17 8,jp (.st 2 5 16),jm 6 17] [5,6] .ret))
def rv53:List RV:=[.c 5 true 2,.t 6]
def I_nextOf_1 (g:G) (t:TE) (a0:Int) (a1:Int) (a2:Network):Option (Trip×Bool):=
 cl (ow g t a2 a0 a1) fun x1=>
 some (((Trip.mk x1.1.Leg x1.1.Day),x1.2))
theorem rE {g:G} {t:TE} {a0:Int} {a1:Int} {a2:Network} {r:Trip×Bool} (hg:g=G.real) (ht:t=TE.real) (h:I_nextOf_1 g t a0 a1 a2=some r):Fn Try.prog 53 [.c (.v (.int .i64 a0)),.c (.v (.int .i64 a1)),.q (Network.rs t a2)] (.u [.g (Trip.ds t r.1),.c (.r (.v (.bool r.2)))]):=by
 obtain⟨X,hX⟩:=aO (.u [.g (Trip.ds t r.1),.c (.r (.v (.bool r.2)))]:X);rw[←hX];refine aN (rvs:=rv53) (j:=ir53) Try.func53 rfl (by kernel_rfl) (nb rfl) (by kernel_rfl) ac ?_;intro g2 F hg2 hF;obtain rfl:g2=g:=hg2.unique.trans hg.symm;clear hg2;obtain⟨_⟩:=g2;obtain⟨_⟩:=t
 obtain⟨a2_Legs,a2_Off,a2_Change⟩:=a2;unfold I_nextOf_1 at h;try dsimp only at h
 cbv;obtain⟨x1,hx1,h⟩:=ae h;obtain⟨⟨x1_1_Leg,x1_1_Day⟩,x1_2⟩:=x1;try dsimp only at h
 refine ACall.mk _ _ rfl (hF _ _ _ (yu hg ht hx1)) (.inl rfl) (nb rfl) ?_;cbv;obtain rfl:=Option.some.inj h;exact ARet.mk trivial hX.symm
def callFd (g:G) (t:TE) (f:Fd) (x0:Int) (x1:Int):Option (Trip×Bool):=match f with
 |.I_freeOf_1 a0 a1 a2 a3=>I_freeOf_1 g t x0 x1 a0 a1 a2 a3
 |.I_nextOf_1 a0=>I_nextOf_1 g t x0 x1 a0
theorem tn {g:G} {t:TE} {f:Fd} {x0:Int} {x1:Int} {r:Trip×Bool} (hg:g=G.real) (ht:t=TE.real) (h:callFd g t f x0 x1=some r):∃(q:Nat) (bs:List (List R)),t.r_Fd f=.fn q bs∧(fT Try.prog q=true∧Fn Try.prog q ([.c (.v (.int .i64 x0)),.c (.v (.int .i64 x1))]++bs.map A.q) (.u [.g (Trip.ds t r.1),.c (.r (.v (.bool r.2)))])):=by
 cases f with
 |I_freeOf_1 a0 a1 a2 a3=>
  exact⟨_,_,(jr ht a0 a1 a2 a3).symm,by kernel_rfl,rh hg ht h⟩
 |I_nextOf_1 a0=>
  exact⟨_,_,(i9 ht a0).symm,by kernel_rfl,rE hg ht h⟩
def ir40:J:=js [jq 5 (.box 0),jq 10 (.mv (.k (.c (.n 1))))] [1,2,3,4,5] (js [jl 23 3 5,jc 24 38 [23],jm 11 24] [1,2,3,4,5,11] (js [jm 25 11,jm 26 2,jc 27 39 [25,26],jm 12 27] [1,3,4,5,11,12] (.seq (js [jm 28 12,jb 29 .lss .i 28 (ki 0),jm 30 29,jv 31 30 (.mv 3),jv 32 30 (.bin .gtr .i 31 (ki 100000)),jq 33 (.pick 30 kt 32),jm 34 33,jv 35 34 (.mv 4),jv 36 34 (.bin .lss .i 35 (ki 0)),jq 37 (.pick 34 kt 36)] [1,3,4,5,11,12,37] (.cond 37 (js [jq 10 (.mv (.k (.c (.n 1))))] [10] .ret) .skip)) (js [jq 38 (.bsl 1 []),jm 13 38] [1,3,4,5,11,12,13] (.seq (js [jm 39 11,jq 40 (.len false 39),jm 41 (ki 0)] [1,3,4,5,11,12,13,40,41] (.bl 0 (js [jb 42 .lss .i 41 40] [1,3,4,5,11,12,13,40,41,42] (.seq (.cond 42 .skip (.exit 0)) (.seq (.block 1 (.reg none [jm 43 13,jq 44 (.bsl 1 [(.k (V.i (-1)))]),jq 45 (.app 1 8 true 43 44),jm 13 45] [1,3,4,5,11,12,13,40,41])) (.reg none [jb 46 .add .i 41 (ki 1),jm 41 46] [1,3,4,5,11,12,13,40,41])))))) (js [jm 47 13,jm 48 12,jm 49 3,jq 50 (.mnx true 49 (ki 0)),ja 51 1 47 48,jp (.st 1 51 50)] [1,4,5,11,12,13] (.seq (js [jm 14 (ki 0)] [1,4,5,11,12,13,14] (.bl 2 (.seq (js [jm 52 14,jm 53 4,jb 54 .lss .i 52 53] [1,4,5,11,12,13,14,54] (.cond 54 .skip (.exit 2))) (.seq (.block 3 (js [jq 57 (.bsl 1 []),jm 58 13,jq 59 (.app 1 8 false 57 58),jm 15 59] [1,4,5,11,12,13,14,15] (js [jm 16 kf] [1,4,5,11,12,13,14,15,16] (.seq (js [jf 60 0 5,jk 61 60,jq 62 (.len false 61),jm 63 (ki 0)] [1,4,5,11,12,13,14,15,16,61,62,63] (.bl 4 (js [jb 64 .lss .i 63 62] [1,4,5,11,12,13,14,15,16,61,62,63,64] (.seq (.cond 64 .skip (.exit 4)) (.seq (.block 5 (js [jm 65 63,ja 66 6 61 63,jl 67 6 66,jq 18 (.alloc [.r (.v (.string .empty)),.r (.v (.string .empty)),.r (.v (.int .i64 0)),.r (.v (.int .i64 0)),.r (.v (.int .i64 0)),.r (.v (.int .i64 0))]),jm 17 65,jp (.st 6 18 67)] [1,4,5,11,12,13,14,15,16,17,18,61,62,63] (js [jm 68 11,jf 69 0 18,jk 70 69,jc 71 39 [68,70],jm 19 71] [1,4,5,11,12,13,14,15,16,17,18,19,61,62,63] (js [jm 72 11,jf 73 1 18,jk 74 73,jc 75 39 [72,74],jm 20 75] [1,4,5,11,12,13,14,15,16,17,19,20,61,62,63] (.seq (js [jm 76 13,jm 77 19,ja 78 1 76 77,jk 79 78,jb 80 .lss .i 79 (ki 0)] [1,4,5,11,12,13,14,15,16,17,19,20,61,62,63,80] (.cond 80 (.exit 5) .skip)) (.seq (.reg (some [[],[],[],[],[],[3,4],[3,4,5],[],[],[7,8],[2,3,4,5,6,7,8,9],[0,1,2,3,4,5,6,7,8,9,10],[0,1,2,3,4,5,6,7,8,9,10,11],[0,1,2,3,4,5,6,7,8,9,10,11,12],[0,1,2,3,4,5,6,7,8,9,10,11,12],[],[0,1,2,3,4,5,6,7,8,9,10,11,12,13,15],[0,1,2,3,4,5,6,7,8,9,10,11,12,13,14,15,16]]) [jm 82 1,jm 83 17,jl 84 3 5,jm 85 13,jm 86 19,ja 87 1 85 86,jk 88 87,jm 89 19,jm 90 12,jb 91 .eql .i 89 90,jc 92 64 [84,88,91],jq 93 (.callv true 82 [83,92]),jm 81 93,jq 94 (.ext 0 81),
 jq 95 (.ext 1 81),jq 21 (.alloc [.r (.v (.int .i64 0)),.r (.v (.int .i64 0))]),jp (.st 2 21 94),jm 22 95] [1,4,5,11,12,13,14,15,16,20,21,22,61,62,63]) (.seq (.reg (some [[],[0],[0,1],[0,1],[0,1,2,3],[0,1,2,3,4],[0,1,2,3,4,5],[0,1,2,3,4,5,6],[0,1,2,3,4,5,6,7],[0,1,2,3,4,5,6,7],[0,1,2,3,4,5,6,7,8,9],[0,1,2,3,4,5,6,7],[0,1,2,3,4,5,6,7],[0,1,2,3,4,5,6,7,11,12],[0,1,2,3,4,5,6,7,11,12,13],[0,1,2,3,4,5,6,7,8,9,10,11,12,13,14],[0,1,2,3,4,5,6,7,8,9,10,11,12,13,14,15],[0,1,2,3,4,5,6,7,8,9,10,11,12,13,14,15,16]]) [jm 96 22,jm 97 96,ju 98 97 (.mv 15),ju 99 97 (.mv 20),ju 100 97 (.ia 1 98 99),ju 101 97 (.ld false 1 100),ju 102 97 (.bin .lss .i 101 (ki 0)),ju 103 97 (.mv 102),jv 104 103 (.ld true 3 5),jv 105 103 (.ld true 2 21),jv 106 103 (.call 65 true [104,105]),jv 107 103 (.mv 15),jv 108 103 (.mv 20),jv 109 103 (.ia 1 107 108),jv 110 103 (.ld false 1 109),jv 111 103 (.bin .lss .i 106 110),ju 112 97 (.pick 103 kt 111),jq 113 (.pick 97 112 kf)] [1,4,5,11,12,13,14,15,16,20,21,61,62,63,113]) (.cond 113 (js [jm 114 15,jm 115 20,jl 116 3 5,jl 117 2 21,jc 118 65 [116,117],ja 119 1 114 115,jp (.st 1 119 118)] [1,4,5,11,12,13,14,15,61,62,63] (.reg none [jm 16 kt] [1,4,5,11,12,13,14,15,16,61,62,63])) .skip)))))))) (.reg none [jb 120 .add .i 63 (ki 1),jm 63 120] [1,4,5,11,12,13,14,15,16,61,62,63])))))) (js [jm 121 15,jm 13 121] [1,4,5,11,12,13,14,16] (js [jm 122 16,jq 123 (.not 122)] [1,4,5,11,12,13,14,123] (.cond 123 (.exit 2) .skip))))))) (.reg none [jm 55 14,jb 56 .add .i 55 (ki 1),jm 14 56] [1,4,5,11,12,13,14]))))) (js [jm 124 13,jm 10 124] [10] .ret))))))))
def rv40:List RV:=[.t 10]
def aV (g:G) (t:TE) (a0:Network) (a1:Fd) (w2:List Int) (x1:List ByteArray) (x2:Int):List Leg→Int→List Int→Bool→Option ((List Int)×Bool)
 |[],v4,w3,v3=>
  some (w3,v3)
 |z3::ls3,v4,w3,v3=>
  lP (dc g t x1 z3.From) fun x4=>
  lP (dc g t x1 z3.To) fun x5=>
  gd (((0:Int)≤x4∧x4<(((g.dlen (t.d_I64 w2)):Nat):Int)))<|
  gt w2 (g.nat x4) fun x6=>
  br (g.lt x6 0)
  (
   aV g t a0 a1 w2 x1 x2 ls3 (g.wrap .i64 (g.add v4 1)) w3 v3)
  (
   gd (((0:Int)≤x4∧x4<(((g.dlen (t.d_I64 w2)):Nat):Int)))<|
   lP (eD g t a0 x6 (g.eq x4 x2)) fun x7=>
   cl (callFd g t a1 v4 x7) fun x8=>
   br x8.2
   (
    gd (((0:Int)≤x5∧x5<(((g.dlen (t.d_I64 w3)):Nat):Int)))<|
    gt w3 (g.nat x5) fun x9=>
    br (g.lt x9 0)
    (
     cl (i6 g t a0 (Trip.mk x8.1.Leg x8.1.Day)) fun x10=>
     gd (((0:Int)≤x5∧x5<(((g.dlen (t.d_I64 w3)):Nat):Int)))<|
     lP (List.set w3 (g.nat x5) x10) fun(l7:List Int)=>
     aV g t a0 a1 w2 x1 x2 ls3 (g.wrap .i64 (g.add v4 1)) l7 true)
    (
     cl (i6 g t a0 (Trip.mk x8.1.Leg x8.1.Day)) fun x11=>
     gd (((0:Int)≤x5∧x5<(((g.dlen (t.d_I64 w3)):Nat):Int)))<|
     br (g.lt x11 x9)
     (
      cl (i6 g t a0 (Trip.mk x8.1.Leg x8.1.Day)) fun x12=>
      gd (((0:Int)≤x5∧x5<(((g.dlen (t.d_I64 w3)):Nat):Int)))<|
      lP (List.set w3 (g.nat x5) x12) fun(l8:List Int)=>
      aV g t a0 a1 w2 x1 x2 ls3 (g.wrap .i64 (g.add v4 1)) l8 true)
     (
      aV g t a0 a1 w2 x1 x2 ls3 (g.wrap .i64 (g.add v4 1)) w3 v3)))
   (
    aV g t a0 a1 w2 x1 x2 ls3 (g.wrap .i64 (g.add v4 1)) w3 v3))
def ca (g:G) (t:TE) (a0:Network) (a1:Fd) (x1:List ByteArray) (x2:Int):Nat→List Int→Option (List Int)
 |0,w2=>
  some w2
 |n2+1,w2=>
  lP ([]) fun(l5:List Int)=>
  gd (((l5.length+w2.length)*8≤70368744177664))<|
  lP (l5++w2) fun(l6:List Int)=>
  cl (aV g t a0 a1 w2 x1 x2 a0.Legs 0 l6 false) fun y2=>
  br y2.2
  (
   ca g t a0 a1 x1 x2 n2 y2.1)
  (
   some y2.1)
def cj (g:G) (t:TE):Nat→List Int→Option (List Int)
 |0,w1=>
  some w1
 |n1+1,w1=>
  lP ([(-1)]) fun(l2:List Int)=>
  gd (((w1.length+l2.length)*8≤70368744177664))<|
  lP (w1++l2) fun(l3:List Int)=>
  cj g t n1 l3
def gj (g:G) (t:TE) (a0:Network) (a1:Fd) (a2:ByteArray) (a3:Int) (a4:Int):Option (List Int):=
 cl (fv g t a0) fun x1=>
 lP (dc g t x1 a2) fun x2=>
 br (g.lt x2 0)
 (
  some [])
 (
  br (g.lt 100000 a3)
  (
   some [])
  (
   br (g.lt a4 0)
   (
    some [])
   (
    lP ([]) fun(l1:List Int)=>
    gd (((g.int (g.dlen (t.d_S x1)))≤9223372036854775807))<|
    cl (cj g t (aS 0 (g.int (g.dlen (t.d_S x1)))) l1) fun y1=>
    gd (((0:Int)≤x2∧x2<(((g.dlen (t.d_I64 y1)):Nat):Int)))<|
    gt y1 (g.nat x2) fun x3=>
    lP (List.set y1 (g.nat x2) (g.imax a3 0)) fun(l4:List Int)=>
    gd ((a4≤9223372036854775807))<|
    cl (ca g t a0 a1 x1 x2 (aS 0 a4) l4) fun y3=>
    some y3)))
theorem rf {g:G} {t:TE} {a0:Network} {a1:Fd} {a2:ByteArray} {a3:Int} {a4:Int} {r:List Int} (hg:g=G.real) (ht:t=TE.real) (h:gj g t a0 a1 a2 a3 a4=some r):Fn Try.prog 40 [.g (Network.rs t a0),.c (t.r_Fd a1),.c (.v (.string a2)),.c (.v (.int .i64 a3)),.c (.v (.int .i64 a4))] (.c (.o 1 (t.d_I64 r))):=by
 obtain⟨X,hX⟩:=aO (.c (.o 1 (t.d_I64 r)):X);rw[←hX];refine aN (rvs:=rv40) (j:=ir40) Try.func40 rfl (by kernel_rfl) (nb rfl) (by kernel_rfl) ac ?_;intro g2 F hg2 hF;obtain rfl:g2=g:=hg2.unique.trans hg.symm;clear hg2;obtain⟨wrap,lt,_,_,_,_,_,_,_,_,_,_,int,add,_,_,_,_,_,_,_,llen,_,_,dlen,_,_,_,rd,_,_,_,_,_,_,_,_,_,_,_,_,imax⟩:=g2;obtain⟨_,_,_,_,r_Leg,_,r_I64,d_I64,_,_,_,_,r_S,d_S,r_Fd⟩:=t
 obtain⟨a0_Legs,a0_Off,a0_Change⟩:=a0;have hnil_I64:d_I64 []=[]:=lY ht;unfold gj at h;try dsimp only at h
 cbv;obtain⟨x1,hx1,h⟩:=ae h;try dsimp only at h
 refine ACall.mk _ _ rfl (hF _ _ _ (lu hg ht hx1)) (.inl rfl) (nb rfl) ?_;cbv;refine AStep.mk (fu ht (an hg ht _)) ?_;cbv;obtain⟨x2,hx2,h⟩:=af h;try dsimp only at h
 refine ACall.mk _ _ (by rw[show rd (d_S x1) 0 (dlen (d_S x1))=r_S x1 from hN hg ht (an hg ht _)];try rfl) (hF _ _ _ (ez hg ht hx2)) (.inr rfl) (nb rfl) ?_
 cbv
 cases hb1:(lt x2 0)
 rotate_left
 ·rw[ab hb1] at h;cbv;iterate 2 try(rw[hb1];cbv)
  obtain rfl:=Option.some.inj h;exact ARet.mk trivial (by rw[hX];first|rfl|(simp only[Trip.ds,Booking.ds,Leg.ds,Network.ds,Cur.ds,hnil_I64];try rfl))
 rw[aa hb1] at h;cbv;iterate 2 try(rw[hb1];cbv)
 cases hb2:(lt 100000 a3)
 rotate_left
 ·rw[ab hb2] at h;cbv;iterate 2 try(rw[hb2];cbv)
  obtain rfl:=Option.some.inj h;exact ARet.mk trivial (by rw[hX];first|rfl|(simp only[Trip.ds,Booking.ds,Leg.ds,Network.ds,Cur.ds,hnil_I64];try rfl))
 rw[aa hb2] at h;cbv;iterate 2 try(rw[hb2];cbv)
 cases hb3:(lt a4 0)
 rotate_left
 ·rw[ab hb3] at h;cbv;obtain rfl:=Option.some.inj h;exact ARet.mk trivial (by rw[hX];first|rfl|(simp only[Trip.ds,Booking.ds,Leg.ds,Network.ds,Cur.ds,hnil_I64];try rfl))
 rw[aa hb3] at h;cbv;obtain⟨l1,hl1,h⟩:=af h;try dsimp only at h
 refine ANew.mk (d_I64 l1) (dlen (d_I64 l1)) (by rw[←hl1];exact dp hg ht []) (by rw[←hl1];exact cD hg ht []) ?_;cbv;obtain⟨hB1,h⟩:=aj h;obtain⟨o1,ho1,h⟩:=ae h;try dsimp only at h
 try rw[hg] at ho1
 try rw[ht] at ho1
 refine ABL.mk {p:Nat×Int×List Int//p.1=aS p.2.1 (int (dlen (d_S x1)))∧0≤p.2.1∧cj G.real TE.real p.1 p.2.2=some o1} (fun⟨⟨n1,v1,w1⟩,_⟩=>({sl:=[(1,.c (.r (r_Fd a1))),(3,.c (.r (.v (.int .i64 a3)))),(4,.c (.r (.v (.int .i64 a4)))),(5,.c (.p 0 3 0 0)),(11,.c (.f 1 1 0 (dlen (d_S x1)))),(12,.c (.r (.v (.int .i64 x2)))),(13,.c (.f 2 1 0 (dlen (d_I64 w1)))),(40,.c (.r (.v (.int .i64 (int (dlen (d_S x1))))))),(41,.c (.r (.v (.int .i64 v1))))],tab:=[(0,some (.foc 3 [] [.r (.s 6 (r_Leg a0_Legs)),.r (.s 1 (r_I64 a0_Off)),.r (.v (.int .i64 a0_Change))] [])),(1,some (.arr 1 (d_S x1))),(2,some (.arr 1 (d_I64 w1)))]}:St)) 3 (fun p=>p.1.1) ⟨(aS 0 (int (dlen (d_S x1))),0,l1),rfl,Int.le_refl _,ho1⟩ (List Int) (fun y1=>({sl:=[(1,.c (.r (r_Fd a1))),(3,.c (.r (.v (.int .i64 a3)))),(4,.c (.r (.v (.int .i64 a4)))),(5,.c (.p 0 3 0 0)),(11,.c (.f 1 1 0 (dlen (d_S x1)))),(12,.c (.r (.v (.int .i64 x2)))),(13,.c (.f 2 1 0 (dlen (d_I64 y1))))],tab:=[(0,some (.foc 3 [] [.r (.s 6 (r_Leg a0_Legs)),.r (.s 1 (r_I64 a0_Off)),.r (.v (.int .i64 a0_Change))] [])),(1,some (.arr 1 (d_S x1))),(2,some (.arr 1 (d_I64 y1)))]}:St)) 3 (fun y=>o1=y) ?_ ?_ ?_
 ·refine Wk.of [(0,some 0),(1,some 48),(2,some 304)] rfl rfl ?_ ?_
  ·cbv;all_goals exact⟨⟨_,rfl,rfl⟩,⟨_,rfl,rfl⟩,⟨_,rfl,rfl⟩,⟨_,rfl,rfl⟩,⟨_,rfl,rfl⟩,⟨_,rfl,rfl⟩,⟨_,rfl,rfl⟩,⟨_,rfl,rfl⟩,⟨_,rfl,rfl⟩,trivial⟩
  cbv;all_goals exact⟨⟨_,rfl,_,rfl,rfl,rfl,rfl,trivial⟩,⟨_,rfl,rfl⟩,⟨_,rfl,rfl⟩,trivial⟩
 ·rintro⟨⟨n1,v1,w1⟩,hn1,hi1,h_1⟩ hq1;try dsimp only at hn1 hi1 h_1
  clear hq1;cbv;rcases n1 with _|n1
  ·have hb4:lt v1 (int (dlen (d_S x1)))=false:=dT hg hn1;rw[cj] at h_1;try rw[←hg] at h_1
   try rw[←ht] at h_1
   try dsimp only at h_1
   rw[hb4];cbv;refine⟨w1,Wk.of [(0,some 0),(1,some 1),(2,some 2)] rfl rfl ?_ ?_,(Option.some.inj h_1).symm⟩
   ·cbv;all_goals exact⟨⟨_,rfl,rfl⟩,⟨_,rfl,rfl⟩,⟨_,rfl,rfl⟩,⟨_,rfl,rfl⟩,⟨_,rfl,rfl⟩,⟨_,rfl,rfl⟩,⟨_,rfl,rfl⟩,trivial⟩
   cbv;all_goals exact⟨⟨_,rfl,_,rfl,rfl,rfl,rfl,trivial⟩,⟨_,rfl,rfl⟩,⟨_,rfl,rfl⟩,trivial⟩
  have hb4:lt v1 (int (dlen (d_S x1)))=true:=e7 hg hn1;have hl1:=iS hn1;have hs1:=f9 hg hn1 hi1 hB1 (by decide);rw[cj] at h_1;try rw[←hg] at h_1
  try rw[←ht] at h_1
  try dsimp only at h_1
  rw[hb4];cbv;obtain⟨l2,hl2,h_1⟩:=af h_1;try dsimp only at h_1
  refine ANew.mk (d_I64 l2) (dlen (d_I64 l2)) (by rw[←hl2];exact dp hg ht [(-1)]) (by rw[←hl2];exact cD hg ht [(-1)]) ?_;cbv;obtain⟨hc1,h_1⟩:=aj h_1;refine AStep.mk ⟨⟨rfl,(ak hg ht _)⟩,(gl hg ht (ak hg ht _) rfl hc1)⟩ ?_;cbv;obtain⟨l3,hl3,h_1⟩:=af h_1;try dsimp only at h_1
  refine ANew.mk (d_I64 l3) (dlen (d_I64 l3)) (by rw[←hl3];exact li hg ht (ak hg ht _) rfl) (by rw[←hl3];exact ji hg ht (ak hg ht _) rfl) ?_;cbv;try rw[hg] at h_1
  try rw[ht] at h_1
  refine⟨⟨(n1,(wrap .i64 (add v1 1)),l3),hs1.1,hs1.2,h_1⟩,Wk.of [(0,some 0),(1,some 1),(2,some 51)] rfl rfl ?_ ?_,Nat.lt_succ_self _⟩
  ·cbv;all_goals exact⟨⟨_,rfl,rfl⟩,⟨_,rfl,rfl⟩,⟨_,rfl,rfl⟩,⟨_,rfl,rfl⟩,⟨_,rfl,rfl⟩,⟨_,rfl,rfl⟩,⟨_,rfl,rfl⟩,⟨_,rfl,rfl⟩,⟨_,rfl,rfl⟩,trivial⟩
  cbv;all_goals exact⟨⟨_,rfl,_,rfl,rfl,rfl,rfl,trivial⟩,⟨_,rfl,rfl⟩,⟨_,rfl,rfl⟩,trivial⟩
 rintro y1 hy1;replace hy1:=hy1.symm;subst hy1;try dsimp only[lr,lrL,lrp,aH] at h
 cbv;obtain⟨hc2,h⟩:=aj h;refine AStep.mk hc2 ?_;cbv;obtain⟨x3,hx3,h⟩:=aQ h;try dsimp only at h
 refine AGet.mk _ (ba hg ht hx3) ?_;cbv;obtain⟨l4,hl4,h⟩:=af h;try dsimp only at h
 refine ANew.mk (d_I64 l4) _ (by rw[←hl4];exact jI hg ht _ _ (imax a3 0)) rfl ?_;have hnl4:(dlen (d_I64 y1))=(d_I64 l4).length:=(by rw[←hl4,iq ht];exact(ak hg ht _));cbv;obtain⟨hB2,h⟩:=aj h;obtain⟨o2,ho2,h⟩:=ae h;try dsimp only at h
 try rw[hg] at ho2
 try rw[ht] at ho2
 refine ABL.mk {p:Nat×Int×List Int//p.1=aS p.2.1 a4∧0≤p.2.1∧ca G.real TE.real (Network.mk a0_Legs a0_Off a0_Change) a1 x1 x2 p.1 p.2.2=some o2} (fun⟨⟨n2,v2,w2⟩,_⟩=>({sl:=[(1,.c (.r (r_Fd a1))),(4,.c (.r (.v (.int .i64 a4)))),(5,.c (.p 0 3 0 0)),(11,.c (.f 1 1 0 (dlen (d_S x1)))),(12,.c (.r (.v (.int .i64 x2)))),(13,.c (.f 2 1 0 (dlen (d_I64 w2)))),(14,.c (.r (.v (.int .i64 v2))))],tab:=[(0,some (.foc 3 [] [.r (.s 6 (r_Leg a0_Legs)),.r (.s 1 (r_I64 a0_Off)),.r (.v (.int .i64 a0_Change))] [])),(1,some (.arr 1 (d_S x1))),(2,some (.arr 1 (d_I64 w2)))]}:St)) 3 (fun p=>p.1.1) ⟨(aS 0 a4,0,l4),rfl,Int.le_refl _,ho2⟩ (List Int) (fun y3=>({sl:=[(13,.c (.f 0 1 0 (dlen (d_I64 y3))))],tab:=[(0,some (.arr 1 (d_I64 y3)))]}:St)) 1 (fun y=>o2=y) ?_ ?_ ?_
 ·refine Wk.of [(0,some 0),(1,some 1),(2,some 2)] rfl rfl ?_ ?_
  ·cbv;all_goals try rw[show(dlen (d_I64 y1))=(dlen (d_I64 l4)) from(hnl4).trans (ak hg ht _).symm]
   all_goals exact⟨⟨_,rfl,rfl⟩,⟨_,rfl,rfl⟩,⟨_,rfl,rfl⟩,⟨_,rfl,rfl⟩,⟨_,rfl,rfl⟩,⟨_,rfl,rfl⟩,⟨_,rfl,rfl⟩,trivial⟩
  cbv;all_goals try rw[show(dlen (d_I64 y1))=(dlen (d_I64 l4)) from(hnl4).trans (ak hg ht _).symm]
  all_goals exact⟨⟨_,rfl,_,rfl,rfl,rfl,rfl,trivial⟩,⟨_,rfl,rfl⟩,⟨_,rfl,rfl⟩,trivial⟩
 ·rintro⟨⟨n2,v2,w2⟩,hn2,hi2,h_2⟩ hq2;try dsimp only at hn2 hi2 h_2
  clear hq2;cbv;rcases n2 with _|n2
  ·have hb5:lt v2 a4=false:=dT hg hn2;rw[ca] at h_2;try rw[←hg] at h_2
   try rw[←ht] at h_2
   try dsimp only at h_2
   rw[hb5];cbv;refine⟨w2,Wk.of [(0,some 2)] rfl rfl ?_ ?_,(Option.some.inj h_2).symm⟩
   ·cbv;all_goals exact⟨⟨_,rfl,rfl⟩,trivial⟩
   cbv;all_goals exact⟨⟨_,rfl,rfl⟩,trivial⟩
  have hb5:lt v2 a4=true:=e7 hg hn2;have hl2:=iS hn2;have hs2:=f9 hg hn2 hi2 hB2 (by decide);rw[ca] at h_2;try rw[←hg] at h_2
  try rw[←ht] at h_2
  try dsimp only at h_2
  rw[hb5];cbv;obtain⟨l5,hl5,h_2⟩:=af h_2;try dsimp only at h_2
  refine ANew.mk (d_I64 l5) (dlen (d_I64 l5)) (by rw[←hl5];exact dp hg ht []) (by rw[←hl5];exact cD hg ht []) ?_;cbv;obtain⟨hc9,h_2⟩:=aj h_2;refine AStep.mk ⟨(s0 hg ht (ak hg ht _)),(gl hg ht (ak hg ht _) (mc hg ht (ak hg ht _)) hc9)⟩ ?_;cbv;obtain⟨l6,hl6,h_2⟩:=af h_2;try dsimp only at h_2
  refine ANew.mk (d_I64 l6) (dlen (d_I64 l6)) (by rw[←hl6];exact li hg ht (ak hg ht _) (mc hg ht (ak hg ht _))) (by rw[←hl6];exact ji hg ht (ak hg ht _) (mc hg ht (ak hg ht _))) ?_;cbv;obtain⟨o3,ho3,h_2⟩:=ae h_2;try dsimp only at h_2
  try rw[hg] at ho3
  try rw[ht] at ho3
  refine ABL.mk {p:Nat×Int×(List Int)×Bool//p.1≤a0_Legs.length∧p.2.1=((p.1:Nat):Int)∧aV G.real TE.real (Network.mk a0_Legs a0_Off a0_Change) a1 w2 x1 x2 (List.drop p.1 a0_Legs) p.2.1 p.2.2.1 p.2.2.2=some o3} (fun⟨⟨k3,v4,w3,v3⟩,_⟩=>({sl:=[(1,.c (.r (r_Fd a1))),(4,.c (.r (.v (.int .i64 a4)))),(5,.c (.p 0 3 0 0)),(11,.c (.f 1 1 0 (dlen (d_S x1)))),(12,.c (.r (.v (.int .i64 x2)))),(13,.c (.f 2 1 0 (dlen (d_I64 w2)))),(14,.c (.r (.v (.int .i64 v2)))),(15,.c (.f 3 1 0 (dlen (d_I64 w3)))),(16,.c (.r (.v (.bool v3)))),(61,.c (.r (.s 6 (r_Leg a0_Legs)))),(62,.c (.r (.v (.int .i64 (llen (r_Leg a0_Legs)))))),(63,.c (.r (.v (.int .i64 v4))))],tab:=[(0,some (.foc 3 [] [.r (.s 6 (r_Leg a0_Legs)),.r (.s 1 (r_I64 a0_Off)),.r (.v (.int .i64 a0_Change))] [])),(1,some (.arr 1 (d_S x1))),(2,some (.arr 1 (d_I64 w2))),(3,some (.arr 1 (d_I64 w3)))]}:St)) 4 (fun p=>a0_Legs.length-p.1.1) ⟨(0,0,l6,false),Nat.zero_le _,rfl,ho3⟩ ((List Int)×Bool) (fun⟨y2_1,y2_2⟩=>({sl:=[(1,.c (.r (r_Fd a1))),(4,.c (.r (.v (.int .i64 a4)))),(5,.c (.p 0 3 0 0)),(11,.c (.f 1 1 0 (dlen (d_S x1)))),(12,.c (.r (.v (.int .i64 x2)))),(14,.c (.r (.v (.int .i64 v2)))),(15,.c (.f 2 1 0 (dlen (d_I64 y2_1)))),(16,.c (.r (.v (.bool y2_2))))],tab:=[(0,some (.foc 3 [] [.r (.s 6 (r_Leg a0_Legs)),.r (.s 1 (r_I64 a0_Off)),.r (.v (.int .i64 a0_Change))] [])),(1,some (.arr 1 (d_S x1))),(2,some (.arr 1 (d_I64 y2_1)))]}:St)) 3 (fun y=>o3=y) ?_ ?_ ?_
  ·refine Wk.of [(0,some 0),(1,some 1),(2,some 2),(3,some 83)] rfl rfl ?_ ?_
   ·cbv;all_goals exact⟨⟨_,rfl,rfl⟩,⟨_,rfl,rfl⟩,⟨_,rfl,rfl⟩,⟨_,rfl,rfl⟩,⟨_,rfl,rfl⟩,⟨_,rfl,rfl⟩,⟨_,rfl,rfl⟩,⟨_,rfl,rfl⟩,⟨_,rfl,rfl⟩,⟨_,rfl,rfl⟩,⟨_,rfl,rfl⟩,⟨_,rfl,rfl⟩,trivial⟩
   cbv;all_goals exact⟨⟨_,rfl,_,rfl,rfl,rfl,rfl,trivial⟩,⟨_,rfl,rfl⟩,⟨_,rfl,rfl⟩,⟨_,rfl,rfl⟩,trivial⟩
  ·rintro⟨⟨k3,v4,w3,v3⟩,hk3,hi3,h_3⟩ hq3;have hm3:=(hq3.1 61 _ _ rfl);try dsimp only at hk3 hi3 h_3
   clear hq3;cbv
   by_cases hc3_:k3<a0_Legs.length
   ·have hb6:lt v4 (llen (r_Leg a0_Legs))=true:=cC hg ht hi3 hc3_;have hs3:=eI hg ht hi3 hc3_ hm3;obtain⟨z3,hz3⟩:=av hc3_;rw[ao hz3] at h_3;rw[aV] at h_3;obtain⟨z3_From,z3_To,z3_Start,z3_Takes,z3_Days,z3_Room⟩:=z3;try rw[←hg] at h_3
    try rw[←ht] at h_3
    try dsimp only at h_3
    rw[hb6];cbv;refine AStep.mk (eb hi3) ?_;cbv;refine AGet.mk _ (cS hg ht hi3 hz3) ?_;cbv;refine AStep.mk (fu ht (an hg ht _)) ?_;cbv;obtain⟨x4,hx4,h_3⟩:=af h_3;try dsimp only at h_3
    refine ACall.mk _ _ (by rw[show rd (d_S x1) 0 (dlen (d_S x1))=r_S x1 from hN hg ht (an hg ht _)];try rfl) (hF _ _ _ (ez hg ht hx4)) (.inr rfl) (nb rfl) ?_
    cbv;refine AStep.mk (fu ht (an hg ht _)) ?_;cbv;obtain⟨x5,hx5,h_3⟩:=af h_3;try dsimp only at h_3
    refine ACall.mk _ _ (by rw[show rd (d_S x1) 0 (dlen (d_S x1))=r_S x1 from hN hg ht (an hg ht _)];try rfl) (hF _ _ _ (ez hg ht hx5)) (.inr rfl) (nb rfl) ?_
    cbv;obtain⟨hc3,h_3⟩:=aj h_3;refine AStep.mk hc3 ?_;cbv;obtain⟨x6,hx6,h_3⟩:=aQ h_3;try dsimp only at h_3
    refine AGet.mk _ (ba hg ht hx6) ?_;cbv
    cases hb7:(lt x6 0)
    rotate_left
    ·rw[ab hb7] at h_3;cbv;try rw[hg] at h_3
     try rw[ht] at h_3
     refine⟨⟨(k3+1,(wrap .i64 (add v4 1)),w3,v3),hc3_,hs3,h_3⟩,Wk.of [(0,some 0),(1,some 1),(2,some 2),(3,some 3)] rfl rfl ?_ ?_,aB hc3_⟩
     ·cbv;all_goals exact⟨⟨_,rfl,rfl⟩,⟨_,rfl,rfl⟩,⟨_,rfl,rfl⟩,⟨_,rfl,rfl⟩,⟨_,rfl,rfl⟩,⟨_,rfl,rfl⟩,⟨_,rfl,rfl⟩,⟨_,rfl,rfl⟩,⟨_,rfl,rfl⟩,⟨_,rfl,rfl⟩,⟨_,rfl,rfl⟩,⟨_,rfl,rfl⟩,trivial⟩
     cbv;all_goals exact⟨⟨_,rfl,_,rfl,rfl,rfl,rfl,trivial⟩,⟨_,rfl,rfl⟩,⟨_,rfl,rfl⟩,⟨_,rfl,rfl⟩,trivial⟩
    rw[aa hb7] at h_3;cbv;obtain⟨hc4,h_3⟩:=aj h_3;refine AStep.mk hc4 ?_;cbv;refine AGet.mk _ (ba hg ht hx6) ?_;cbv;obtain⟨x7,hx7,h_3⟩:=af h_3;try dsimp only at h_3
    refine ACall.mk _ _ rfl (hF _ _ _ (mU hg ht hx7)) (.inl rfl) (nb rfl) ?_;cbv;obtain⟨x8,hx8,h_3⟩:=ae h_3;obtain⟨⟨x8_1_Leg,x8_1_Day⟩,x8_2⟩:=x8;try dsimp only at h_3
    obtain⟨f_,bs_,hr_,hc_⟩:=tn hg ht hx8;refine ACallV.mk f_ bs_ _ _ hr_ rfl (hF _ _ _ hc_) (.inl rfl) (nb rfl) ?_;clear hr_ hc_;cbv;have hb8:x8_2=true∨x8_2=false:=by cases x8_2<;>simp
    rcases hb8 with hb8|hb8
    ·rw[ab hb8] at h_3;have hK_:=h_3;subst hb8;have h_3:=hK_;clear hK_;cbv;iterate 2 try(rw[hb8];cbv)
     obtain⟨hc5,h_3⟩:=aj h_3;refine AStep.mk hc5 ?_;cbv;try(rw[hb8];cbv)
     obtain⟨x9,hx9,h_3⟩:=aQ h_3;try dsimp only at h_3
     refine AGet.mk _ (ba hg ht hx9) ?_;cbv;iterate 2 try(rw[hb8];cbv)
     cases hb9:(lt x9 0)
     rotate_left
     ·rw[ab hb9] at h_3;cbv;iterate 7 try(rw[hb9];cbv)
      try(rw[hb8];cbv)
      try(rw[hb9];cbv)
      try(rw[hb8];cbv)
      obtain⟨x10,hx10,h_3⟩:=ae h_3;try dsimp only at h_3
      refine ACall.mk _ _ rfl (hF _ _ _ (lO hg ht hx10)) (.inl rfl) (nb rfl) ?_;cbv;obtain⟨hc6,h_3⟩:=aj h_3;refine AStep.mk hc6 ?_;cbv;refine AGet.mk _ (ba hg ht hx9) ?_;cbv;obtain⟨l7,hl7,h_3⟩:=af h_3;try dsimp only at h_3
      refine ANew.mk (d_I64 l7) _ (by rw[←hl7];exact jI hg ht _ _ x10) rfl ?_;have hnl7:(dlen (d_I64 w3))=(d_I64 l7).length:=(by rw[←hl7,iq ht];exact(ak hg ht _));cbv;try rw[hg] at h_3
      try rw[ht] at h_3
      refine⟨⟨(k3+1,(wrap .i64 (add v4 1)),l7,true),hc3_,hs3,h_3⟩,Wk.of [(0,some 0),(1,some 1),(2,some 2),(3,some 3)] rfl rfl ?_ ?_,aB hc3_⟩
      ·cbv;all_goals try rw[show(dlen (d_I64 w3))=(dlen (d_I64 l7)) from(hnl7).trans (ak hg ht _).symm]
       all_goals exact⟨⟨_,rfl,rfl⟩,⟨_,rfl,rfl⟩,⟨_,rfl,rfl⟩,⟨_,rfl,rfl⟩,⟨_,rfl,rfl⟩,⟨_,rfl,rfl⟩,⟨_,rfl,rfl⟩,⟨_,rfl,rfl⟩,⟨_,rfl,rfl⟩,⟨_,rfl,rfl⟩,⟨_,rfl,rfl⟩,⟨_,rfl,rfl⟩,trivial⟩
      cbv;all_goals try rw[show(dlen (d_I64 w3))=(dlen (d_I64 l7)) from(hnl7).trans (ak hg ht _).symm]
      all_goals exact⟨⟨_,rfl,_,rfl,rfl,rfl,rfl,trivial⟩,⟨_,rfl,rfl⟩,⟨_,rfl,rfl⟩,⟨_,rfl,rfl⟩,trivial⟩
     rw[aa hb9] at h_3;cbv;iterate 2 try(rw[hb9];cbv)
     obtain⟨x11,hx11,h_3⟩:=ae h_3;try dsimp only at h_3
     refine ACall.mk _ _ rfl (hF _ _ _ (lO hg ht hx11)) (.inl rfl) (nb rfl) ?_;cbv;iterate 3 try(rw[hb9];cbv)
     obtain⟨hc7,h_3⟩:=aj h_3;refine AStep.mk hc7 ?_;cbv;try(rw[hb9];cbv)
     refine AGet.mk _ (ba hg ht hx9) ?_;cbv;try(rw[hb9];cbv)
     try(rw[hb8];cbv)
     try(rw[hb9];cbv)
     try(rw[hb8];cbv)
     cases hb10:(lt x11 x9)
     ·rw[aa hb10] at h_3;cbv;try rw[hg] at h_3
      try rw[ht] at h_3
      refine⟨⟨(k3+1,(wrap .i64 (add v4 1)),w3,v3),hc3_,hs3,h_3⟩,Wk.of [(0,some 0),(1,some 1),(2,some 2),(3,some 3)] rfl rfl ?_ ?_,aB hc3_⟩
      ·cbv;all_goals exact⟨⟨_,rfl,rfl⟩,⟨_,rfl,rfl⟩,⟨_,rfl,rfl⟩,⟨_,rfl,rfl⟩,⟨_,rfl,rfl⟩,⟨_,rfl,rfl⟩,⟨_,rfl,rfl⟩,⟨_,rfl,rfl⟩,⟨_,rfl,rfl⟩,⟨_,rfl,rfl⟩,⟨_,rfl,rfl⟩,⟨_,rfl,rfl⟩,trivial⟩
      cbv;all_goals exact⟨⟨_,rfl,_,rfl,rfl,rfl,rfl,trivial⟩,⟨_,rfl,rfl⟩,⟨_,rfl,rfl⟩,⟨_,rfl,rfl⟩,trivial⟩
     rw[ab hb10] at h_3;cbv;obtain⟨x12,hx12,h_3⟩:=ae h_3;try dsimp only at h_3
     refine ACall.mk _ _ rfl (hF _ _ _ (lO hg ht hx12)) (.inl rfl) (nb rfl) ?_;cbv;obtain⟨hc8,h_3⟩:=aj h_3;refine AStep.mk hc8 ?_;cbv;refine AGet.mk _ (ba hg ht hx9) ?_;cbv;obtain⟨l8,hl8,h_3⟩:=af h_3;try dsimp only at h_3
     refine ANew.mk (d_I64 l8) _ (by rw[←hl8];exact jI hg ht _ _ x12) rfl ?_;have hnl8:(dlen (d_I64 w3))=(d_I64 l8).length:=(by rw[←hl8,iq ht];exact(ak hg ht _));cbv;try rw[hg] at h_3
     try rw[ht] at h_3
     refine⟨⟨(k3+1,(wrap .i64 (add v4 1)),l8,true),hc3_,hs3,h_3⟩,Wk.of [(0,some 0),(1,some 1),(2,some 2),(3,some 3)] rfl rfl ?_ ?_,aB hc3_⟩
     ·cbv;all_goals try rw[show(dlen (d_I64 w3))=(dlen (d_I64 l8)) from(hnl8).trans (ak hg ht _).symm]
      all_goals exact⟨⟨_,rfl,rfl⟩,⟨_,rfl,rfl⟩,⟨_,rfl,rfl⟩,⟨_,rfl,rfl⟩,⟨_,rfl,rfl⟩,⟨_,rfl,rfl⟩,⟨_,rfl,rfl⟩,⟨_,rfl,rfl⟩,⟨_,rfl,rfl⟩,⟨_,rfl,rfl⟩,⟨_,rfl,rfl⟩,⟨_,rfl,rfl⟩,trivial⟩
     cbv;all_goals try rw[show(dlen (d_I64 w3))=(dlen (d_I64 l8)) from(hnl8).trans (ak hg ht _).symm]
     all_goals exact⟨⟨_,rfl,_,rfl,rfl,rfl,rfl,trivial⟩,⟨_,rfl,rfl⟩,⟨_,rfl,rfl⟩,⟨_,rfl,rfl⟩,trivial⟩
    rw[aa hb8] at h_3;have hK_:=h_3;subst hb8;have h_3:=hK_;clear hK_;cbv;iterate 7 try(rw[hb8];cbv)
    try rw[hg] at h_3
    try rw[ht] at h_3
    refine⟨⟨(k3+1,(wrap .i64 (add v4 1)),w3,v3),hc3_,hs3,h_3⟩,Wk.of [(0,some 0),(1,some 1),(2,some 2),(3,some 3)] rfl rfl ?_ ?_,aB hc3_⟩
    ·cbv;all_goals exact⟨⟨_,rfl,rfl⟩,⟨_,rfl,rfl⟩,⟨_,rfl,rfl⟩,⟨_,rfl,rfl⟩,⟨_,rfl,rfl⟩,⟨_,rfl,rfl⟩,⟨_,rfl,rfl⟩,⟨_,rfl,rfl⟩,⟨_,rfl,rfl⟩,⟨_,rfl,rfl⟩,⟨_,rfl,rfl⟩,⟨_,rfl,rfl⟩,trivial⟩
    cbv;all_goals exact⟨⟨_,rfl,_,rfl,rfl,rfl,rfl,trivial⟩,⟨_,rfl,rfl⟩,⟨_,rfl,rfl⟩,⟨_,rfl,rfl⟩,trivial⟩
   have hb6:lt v4 (llen (r_Leg a0_Legs))=false:=cf hg ht hi3 hc3_;rw[List.drop_of_length_le (Nat.le_of_not_lt hc3_)] at h_3;rw[aV] at h_3;try rw[←hg] at h_3
   try rw[←ht] at h_3
   try dsimp only at h_3
   rw[hb6];cbv;refine⟨(w3,v3),Wk.of [(0,some 0),(1,some 1),(2,some 3)] rfl rfl ?_ ?_,(Option.some.inj h_3).symm⟩
   ·cbv;all_goals exact⟨⟨_,rfl,rfl⟩,⟨_,rfl,rfl⟩,⟨_,rfl,rfl⟩,⟨_,rfl,rfl⟩,⟨_,rfl,rfl⟩,⟨_,rfl,rfl⟩,⟨_,rfl,rfl⟩,⟨_,rfl,rfl⟩,trivial⟩
   cbv;all_goals exact⟨⟨_,rfl,_,rfl,rfl,rfl,rfl,trivial⟩,⟨_,rfl,rfl⟩,⟨_,rfl,rfl⟩,trivial⟩
  rintro⟨y2_1,y2_2⟩ hy3;replace hy3:=hy3.symm;subst hy3;try dsimp only[lr,lrL,lrp,aH] at h_2
  cbv
  cases hb11:y2_2
  ·rw[aa hb11] at h_2;cbv;refine⟨y2_1,Wk.of [(0,some 2)] rfl rfl ?_ ?_,(Option.some.inj h_2).symm⟩
   ·cbv;all_goals exact⟨⟨_,rfl,rfl⟩,trivial⟩
   cbv;all_goals exact⟨⟨_,rfl,rfl⟩,trivial⟩
  rw[ab hb11] at h_2;cbv;try rw[hg] at h_2
  try rw[ht] at h_2
  refine⟨⟨(n2,(wrap .i64 (add v2 1)),y2_1),hs2.1,hs2.2,h_2⟩,Wk.of [(0,some 0),(1,some 1),(2,some 2)] rfl rfl ?_ ?_,Nat.lt_succ_self _⟩
  ·cbv;all_goals exact⟨⟨_,rfl,rfl⟩,⟨_,rfl,rfl⟩,⟨_,rfl,rfl⟩,⟨_,rfl,rfl⟩,⟨_,rfl,rfl⟩,⟨_,rfl,rfl⟩,⟨_,rfl,rfl⟩,trivial⟩
  cbv;all_goals exact⟨⟨_,rfl,_,rfl,rfl,rfl,rfl,trivial⟩,⟨_,rfl,rfl⟩,⟨_,rfl,rfl⟩,trivial⟩
 rintro y3 hy2;replace hy2:=hy2.symm;subst hy2;try dsimp only[lr,lrL,lrp,aH] at h
 cbv;obtain rfl:=Option.some.inj h;exact ARet.mk ⟨rfl,(ak hg ht _)⟩ hX.symm
def ir41:J:=js [jq 7 (.box 0),jq 14 (.alloc [.r (.v (.int .i64 0)),.r (.v (.int .i64 0))]),jm 15 kf] [1,2,3,4,5,6,7,14] (.seq (js [jf 21 0 7,jk 22 21,jq 23 (.len false 22),jm 24 (ki 0)] [1,2,3,4,5,6,7,14,22,23,24] (.bl 0 (js [jb 25 .lss .i 24 23] [1,2,3,4,5,6,7,14,22,23,24,25] (.seq (.cond 25 .skip (.exit 0)) (.seq (.block 1 (js [jm 26 24,ja 27 6 22 24,jl 28 6 27,jq 17 (.alloc [.r (.v (.string .empty)),.r (.v (.string .empty)),.r (.v (.int .i64 0)),.r (.v (.int .i64 0)),.r (.v (.int .i64 0)),.r (.v (.int .i64 0))]),jm 16 26,jp (.st 6 17 28)] [1,2,3,4,5,6,7,14,16,17,22,23,24] (js [jm 29 2,jf 30 0 17,jk 31 30,jc 32 39 [29,31],jm 18 32] [1,2,3,4,5,6,7,14,16,17,18,22,23,24] (.seq (.seq (.reg (some [[],[0],[],[],[2,3],[2,3,4],[0,1,2,3,4,5],[0,1,2,3,4,5,6],[0,1,2,3,4,5,6,7],[0,1,2,3,4,5,6,7],[0,1,2,3,4,5,6,7,8,9],[0,1,2,3,4,5,6,7,8,9,10],[0,1,2,3,4,5,6,7,8,9,10,11],[0,1,2,3,4,5,6,7,8,9,10,11,12]]) [jf 33 1 17,jk 34 33,jm 35 2,jm 36 5,ja 37 1 35 36,jk 38 37,jb 39 .neq .s 34 38,jm 40 39,jv 41 40 (.mv 3),jv 42 40 (.mv 18),jv 43 40 (.ia 1 41 42),jv 44 40 (.ld false 1 43),jv 45 40 (.bin .lss .i 44 (ki 0)),jq 46 (.pick 40 kt 45)] [1,2,3,4,5,6,7,14,16,17,18,22,23,24,46]) (.cond 46 (.exit 1) .skip)) (.seq (.reg (some [[],[],[],[],[],[3,4],[3,4,5],[],[7],[],[7,8,9],[2,3,4,5,6,7,8,9,10],[0,1,2,3,4,5,6,7,8,9,10,11],[0,1,2,3,4,5,6,7,8,9,10,11,12],[0,1,2,3,4,5,6,7,8,9,10,11,12,13],[0,1,2,3,4,5,6,7,8,9,10,11,12,13],[],[0,1,2,3,4,5,6,7,8,9,10,11,12,13,14,16],[0,1,2,3,4,5,6,7,8,9,10,11,12,13,14,15,16,17]]) [jm 48 1,jm 49 16,jl 50 3 7,jm 51 3,jm 52 18,ja 53 1 51 52,jk 54 53,jf 55 0 17,jk 56 55,jm 57 4,jb 58 .eql .s 56 57,jc 59 64 [50,54,58],jq 60 (.callv true 48 [49,59]),jm 47 60,jq 61 (.ext 0 47),jq 62 (.ext 1 47),jq 19 (.alloc [.r (.v (.int .i64 0)),.r (.v (.int .i64 0))]),jp (.st 2 19 61),jm 20 62] [1,2,3,4,5,6,7,14,19,20,22,23,24]) (js [jm 63 20,jm 64 63,ju 65 64 (.ld true 3 7),ju 66 64 (.ld true 2 19),ju 67 64 (.call 65 true [65,66]),ju 68 64 (.mv 6),ju 69 64 (.bin .eql .i 67 68),jq 70 (.pick 64 69 kf)] [1,2,3,4,5,6,7,14,19,22,23,24,70] (.cond 70 (js [jl 71 2 19,jp (.st 2 14 71),jm 15 kt] [14,15] .ret) .skip))))))) (.reg none [jb 72 .add .i 24 (ki 1),jm 24 72] [1,2,3,4,5,6,7,14,22,23,24])))))) (js [jq 73 (.bld [.r (.v (.int .i64 0)),.r (.v (.int .i64 0))] []),jp (.st 2 14 73),jm 15 kf] [14,15] .ret))
def rv41:List RV:=[.c 14 true 2,.t 15]
def bv (g:G) (t:TE) (a0:Network) (a1:Fd) (a2:List ByteArray) (a3:List Int) (a4:ByteArray) (a5:Int) (a6:Int):List Leg→Int→Option (LR (Trip×Bool) Unit)
 |[],v1=>
  some (LR.out ())
 |z1::ls1,v1=>
  lP (dc g t a2 z1.From) fun x1=>
  gd (((0:Int)≤a5))<|
  gt a2 (g.nat a5) fun x2=>
  br (g.seq z1.To x2)
  (
   gd (((0:Int)≤x1))<|
   gt a3 (g.nat x1) fun x3=>
   br (g.lt x3 0)
   (
    bv g t a0 a1 a2 a3 a4 a5 a6 ls1 (g.wrap .i64 (g.add v1 1)))
   (
    gd (((0:Int)≤x1))<|
    lP (eD g t a0 x3 (g.seq z1.From a4)) fun x4=>
    cl (callFd g t a1 v1 x4) fun x5=>
    br x5.2
    (
     cl (i6 g t a0 (Trip.mk x5.1.Leg x5.1.Day)) fun x6=>
     br (g.eq x6 a6)
     (
      some (LR.ret (((Trip.mk x5.1.Leg x5.1.Day),true))))
     (
      bv g t a0 a1 a2 a3 a4 a5 a6 ls1 (g.wrap .i64 (g.add v1 1))))
    (
     bv g t a0 a1 a2 a3 a4 a5 a6 ls1 (g.wrap .i64 (g.add v1 1)))))
  (
   bv g t a0 a1 a2 a3 a4 a5 a6 ls1 (g.wrap .i64 (g.add v1 1)))
def jU (g:G) (t:TE) (a0:Network) (a1:Fd) (a2:List ByteArray) (a3:List Int) (a4:ByteArray) (a5:Int) (a6:Int):Option (Trip×Bool):=
 cl (bv g t a0 a1 a2 a3 a4 a5 a6 a0.Legs 0) fun o1=>lr o1 fun y1=>
 some (((Trip.mk 0 0),false))
theorem tr {g:G} {t:TE} {a0:Network} {a1:Fd} {a2:List ByteArray} {a3:List Int} {a4:ByteArray} {a5:Int} {a6:Int} {r:Trip×Bool} (hg:g=G.real) (ht:t=TE.real) (h:jU g t a0 a1 a2 a3 a4 a5 a6=some r):Fn Try.prog 41 [.g (Network.rs t a0),.c (t.r_Fd a1),.c (.s 1 (t.r_S a2)),.c (.s 1 (t.r_I64 a3)),.c (.v (.string a4)),.c (.v (.int .i64 a5)),.c (.v (.int .i64 a6))] (.u [.g (Trip.ds t r.1),.c (.r (.v (.bool r.2)))]):=by
 obtain⟨X,hX⟩:=aO (.u [.g (Trip.ds t r.1),.c (.r (.v (.bool r.2)))]:X);rw[←hX];refine aN (rvs:=rv41) (j:=ir41) Try.func41 rfl (by kernel_rfl) (nb rfl) (by kernel_rfl) ac ?_;intro g2 F hg2 hF;obtain rfl:g2=g:=hg2.unique.trans hg.symm;clear hg2;obtain⟨wrap,lt,_,eq,_,_,_,_,_,_,_,_,_,add,_,_,_,seq,_,_,_,llen⟩:=g2;obtain⟨_,_,_,_,r_Leg,_,r_I64,_,_,_,_,_,r_S,_,r_Fd⟩:=t
 obtain⟨a0_Legs,a0_Off,a0_Change⟩:=a0;unfold jU at h;try dsimp only at h
 cbv;obtain⟨o1,ho1,h⟩:=ae h;try dsimp only at h
 try rw[hg] at ho1
 try rw[ht] at ho1
 refine ABL.mk {p:Nat×Int//p.1≤a0_Legs.length∧p.2=((p.1:Nat):Int)∧bv G.real TE.real (Network.mk a0_Legs a0_Off a0_Change) a1 a2 a3 a4 a5 a6 (List.drop p.1 a0_Legs) p.2=some o1} (fun⟨⟨k1,v1⟩,_⟩=>({sl:=[(1,.c (.r (r_Fd a1))),(2,.c (.r (.s 1 (r_S a2)))),(3,.c (.r (.s 1 (r_I64 a3)))),(4,.c (.r (.v (.string a4)))),(5,.c (.r (.v (.int .i64 a5)))),(6,.c (.r (.v (.int .i64 a6)))),(7,.c (.p 0 3 0 0)),(14,.c (.p 1 2 0 0)),(22,.c (.r (.s 6 (r_Leg a0_Legs)))),(23,.c (.r (.v (.int .i64 (llen (r_Leg a0_Legs)))))),(24,.c (.r (.v (.int .i64 v1))))],tab:=[(0,some (.foc 3 [] [.r (.s 6 (r_Leg a0_Legs)),.r (.s 1 (r_I64 a0_Off)),.r (.v (.int .i64 a0_Change))] [])),(1,some (.foc 2 [] [.r (.v (.int .i64 0)),.r (.v (.int .i64 0))] []))]}:St)) 2 (fun p=>a0_Legs.length-p.1.1) ⟨(0,0),Nat.zero_le _,rfl,ho1⟩ (Unit) (fun _=>({sl:=[(14,.c (.p 0 2 0 0))],tab:=[(0,some (.foc 2 [] [.r (.v (.int .i64 0)),.r (.v (.int .i64 0))] []))]}:St)) 1 (fun y=>o1=LR.out y) ?_ ?_ ?_
 ·refine Wk.of [(0,some 0),(1,some 16)] rfl rfl ?_ ?_
  ·cbv;all_goals exact⟨⟨_,rfl,rfl⟩,⟨_,rfl,rfl⟩,⟨_,rfl,rfl⟩,⟨_,rfl,rfl⟩,⟨_,rfl,rfl⟩,⟨_,rfl,rfl⟩,⟨_,rfl,rfl⟩,⟨_,rfl,rfl⟩,⟨_,rfl,rfl⟩,⟨_,rfl,rfl⟩,⟨_,rfl,rfl⟩,trivial⟩
  cbv;all_goals exact⟨⟨_,rfl,_,rfl,rfl,rfl,rfl,trivial⟩,⟨_,rfl,_,rfl,rfl,rfl,trivial⟩,trivial⟩
 ·rintro⟨⟨k1,v1⟩,hk1,hi1,h_1⟩ hq1;have hm1:=(hq1.1 22 _ _ rfl);try dsimp only at hk1 hi1 h_1
  clear hq1;cbv
  by_cases hc1_:k1<a0_Legs.length
  ·have hb1:lt v1 (llen (r_Leg a0_Legs))=true:=cC hg ht hi1 hc1_;have hs1:=eI hg ht hi1 hc1_ hm1;obtain⟨z1,hz1⟩:=av hc1_;rw[ao hz1] at h_1;rw[bv] at h_1;obtain⟨z1_From,z1_To,z1_Start,z1_Takes,z1_Days,z1_Room⟩:=z1;try rw[←hg] at h_1
   try rw[←ht] at h_1
   try dsimp only at h_1
   rw[hb1];cbv;refine AStep.mk (eb hi1) ?_;cbv;refine AGet.mk _ (cS hg ht hi1 hz1) ?_;cbv;obtain⟨x1,hx1,h_1⟩:=af h_1;try dsimp only at h_1
   refine ACall.mk _ _ rfl (hF _ _ _ (ez hg ht hx1)) (.inl rfl) (nb rfl) ?_;cbv;obtain⟨hc1,h_1⟩:=aj h_1;refine AStep.mk hc1 ?_;cbv;obtain⟨x2,hx2,h_1⟩:=aQ h_1;try dsimp only at h_1
   refine AGet.mk _ (nF hg ht hx2) ?_;cbv
   cases hb2:(seq z1_To x2)
   ·rw[aa hb2] at h_1;cbv;iterate 5 try(rw[hb2];cbv)
    try rw[hg] at h_1
    try rw[ht] at h_1
    refine⟨⟨(k1+1,(wrap .i64 (add v1 1))),hc1_,hs1,h_1⟩,Wk.of [(0,some 0),(1,some 1)] rfl rfl ?_ ?_,aB hc1_⟩
    ·cbv;all_goals exact⟨⟨_,rfl,rfl⟩,⟨_,rfl,rfl⟩,⟨_,rfl,rfl⟩,⟨_,rfl,rfl⟩,⟨_,rfl,rfl⟩,⟨_,rfl,rfl⟩,⟨_,rfl,rfl⟩,⟨_,rfl,rfl⟩,⟨_,rfl,rfl⟩,⟨_,rfl,rfl⟩,⟨_,rfl,rfl⟩,trivial⟩
    cbv;all_goals exact⟨⟨_,rfl,_,rfl,rfl,rfl,rfl,trivial⟩,⟨_,rfl,_,rfl,rfl,rfl,trivial⟩,trivial⟩
   rw[ab hb2] at h_1;cbv;iterate 2 try(rw[hb2];cbv)
   obtain⟨hc2,h_1⟩:=aj h_1;refine AStep.mk hc2 ?_;cbv;obtain⟨x3,hx3,h_1⟩:=aQ h_1;try dsimp only at h_1
   refine AGet.mk _ (dt hg ht hx3) ?_;cbv;iterate 3 try(rw[hb2];cbv)
   cases hb3:(lt x3 0)
   rotate_left
   ·rw[ab hb3] at h_1;cbv;try rw[hg] at h_1
    try rw[ht] at h_1
    refine⟨⟨(k1+1,(wrap .i64 (add v1 1))),hc1_,hs1,h_1⟩,Wk.of [(0,some 0),(1,some 1)] rfl rfl ?_ ?_,aB hc1_⟩
    ·cbv;all_goals exact⟨⟨_,rfl,rfl⟩,⟨_,rfl,rfl⟩,⟨_,rfl,rfl⟩,⟨_,rfl,rfl⟩,⟨_,rfl,rfl⟩,⟨_,rfl,rfl⟩,⟨_,rfl,rfl⟩,⟨_,rfl,rfl⟩,⟨_,rfl,rfl⟩,⟨_,rfl,rfl⟩,⟨_,rfl,rfl⟩,trivial⟩
    cbv;all_goals exact⟨⟨_,rfl,_,rfl,rfl,rfl,rfl,trivial⟩,⟨_,rfl,_,rfl,rfl,rfl,trivial⟩,trivial⟩
   rw[aa hb3] at h_1;cbv;obtain⟨hc3,h_1⟩:=aj h_1;refine AStep.mk hc3 ?_;cbv;refine AGet.mk _ (dt hg ht hx3) ?_;cbv;obtain⟨x4,hx4,h_1⟩:=af h_1;try dsimp only at h_1
   refine ACall.mk _ _ rfl (hF _ _ _ (mU hg ht hx4)) (.inl rfl) (nb rfl) ?_;cbv;obtain⟨x5,hx5,h_1⟩:=ae h_1;obtain⟨⟨x5_1_Leg,x5_1_Day⟩,x5_2⟩:=x5;try dsimp only at h_1
   obtain⟨f_,bs_,hr_,hc_⟩:=tn hg ht hx5;refine ACallV.mk f_ bs_ _ _ hr_ rfl (hF _ _ _ hc_) (.inl rfl) (nb rfl) ?_;clear hr_ hc_;cbv;have hb4:x5_2=true∨x5_2=false:=by cases x5_2<;>simp
   rcases hb4 with hb4|hb4
   ·rw[ab hb4] at h_1;have hK_:=h_1;subst hb4;have h_1:=hK_;clear hK_;cbv;iterate 2 try(rw[hb4];cbv)
    obtain⟨x6,hx6,h_1⟩:=ae h_1;try dsimp only at h_1
    refine ACall.mk _ _ rfl (hF _ _ _ (lO hg ht hx6)) (.inl rfl) (nb rfl) ?_;cbv;iterate 3 try(rw[hb4];cbv)
    cases hb5:(eq x6 a6)
    rotate_left
    ·rw[ab hb5] at h_1;cbv;obtain rfl:=Option.some.inj h_1;try dsimp only[lr,lrL,lrp,aH] at h
     obtain rfl:=Option.some.inj h;exact ARet.mk trivial hX.symm
    rw[aa hb5] at h_1;cbv;try rw[hg] at h_1
    try rw[ht] at h_1
    refine⟨⟨(k1+1,(wrap .i64 (add v1 1))),hc1_,hs1,h_1⟩,Wk.of [(0,some 0),(1,some 1)] rfl rfl ?_ ?_,aB hc1_⟩
    ·cbv;all_goals exact⟨⟨_,rfl,rfl⟩,⟨_,rfl,rfl⟩,⟨_,rfl,rfl⟩,⟨_,rfl,rfl⟩,⟨_,rfl,rfl⟩,⟨_,rfl,rfl⟩,⟨_,rfl,rfl⟩,⟨_,rfl,rfl⟩,⟨_,rfl,rfl⟩,⟨_,rfl,rfl⟩,⟨_,rfl,rfl⟩,trivial⟩
    cbv;all_goals exact⟨⟨_,rfl,_,rfl,rfl,rfl,rfl,trivial⟩,⟨_,rfl,_,rfl,rfl,rfl,trivial⟩,trivial⟩
   rw[aa hb4] at h_1;have hK_:=h_1;subst hb4;have h_1:=hK_;clear hK_;cbv;iterate 5 try(rw[hb4];cbv)
   try rw[hg] at h_1
   try rw[ht] at h_1
   refine⟨⟨(k1+1,(wrap .i64 (add v1 1))),hc1_,hs1,h_1⟩,Wk.of [(0,some 0),(1,some 1)] rfl rfl ?_ ?_,aB hc1_⟩
   ·cbv;all_goals exact⟨⟨_,rfl,rfl⟩,⟨_,rfl,rfl⟩,⟨_,rfl,rfl⟩,⟨_,rfl,rfl⟩,⟨_,rfl,rfl⟩,⟨_,rfl,rfl⟩,⟨_,rfl,rfl⟩,⟨_,rfl,rfl⟩,⟨_,rfl,rfl⟩,⟨_,rfl,rfl⟩,⟨_,rfl,rfl⟩,trivial⟩
   cbv;all_goals exact⟨⟨_,rfl,_,rfl,rfl,rfl,rfl,trivial⟩,⟨_,rfl,_,rfl,rfl,rfl,trivial⟩,trivial⟩
  have hb1:lt v1 (llen (r_Leg a0_Legs))=false:=cf hg ht hi1 hc1_;rw[List.drop_of_length_le (Nat.le_of_not_lt hc1_)] at h_1;rw[bv] at h_1;try rw[←hg] at h_1
  try rw[←ht] at h_1
  try dsimp only at h_1
  rw[hb1];cbv;refine⟨(),Wk.of [(0,some 1)] rfl rfl ?_ ?_,(Option.some.inj h_1).symm⟩
  ·cbv;all_goals exact⟨⟨_,rfl,rfl⟩,trivial⟩
  cbv;all_goals exact⟨⟨_,rfl,_,rfl,rfl,rfl,trivial⟩,trivial⟩
 rintro _ hy1;replace hy1:=hy1.symm;subst hy1;try dsimp only[lr,lrL,lrp,aH] at h
 cbv;obtain rfl:=Option.some.inj h;exact ARet.mk trivial hX.symm
def ir20:J:=js [jq 5 (.box 0),jq 10 (.mv (.k (.c (.n 2)))),jm 11 kf] [1,2,3,4,5] (js [jl 24 3 5,jc 25 38 [24],jm 12 25] [1,2,3,4,5,12] (js [jm 26 12,jm 27 3,jc 28 39 [26,27],jm 13 28] [1,2,4,5,12,13] (js [jq 29 (.bsl 1 []),jm 14 29] [1,2,4,5,12,13,14] (.seq (js [jm 15 (ki 0)] [1,2,4,5,12,13,14,15] (.bl 0 (.seq (js [jm 30 15,jm 31 12,jq 32 (.len false 31),jb 33 .leq .i 30 32] [1,2,4,5,12,13,14,15,33] (.cond 33 .skip (.exit 0))) (.seq (.block 1 (js [jl 36 3 5,jm 37 1,jm 38 2,jm 39 4,jm 40 15,jc 41 40 [36,37,38,39,40],jm 16 41] [1,2,4,5,12,13,14,15,16] (.seq (js [jm 42 16,jq 43 (.len false 42),jb 44 .eql .i 43 (ki 0),jm 45 44,jv 46 45 (.mv 13),jv 47 45 (.bin .lss .i 46 (ki 0)),jq 48 (.pick 45 kt 47)] [1,2,4,5,12,13,14,15,16,48] (.cond 48 (js [jq 10 (.mv (.k (.c (.n 2)))),jm 11 kf] [10,11] .ret) .skip)) (.reg none [jm 49 14,jm 50 16,jq 51 (.bsl 1 [50]),jq 52 (.app 1 24 true 49 51),jm 14 52] [1,2,4,5,12,13,14,15])))) (.reg none [jm 34 15,jb 35 .add .i 34 (ki 1),jm 15 35] [1,2,4,5,12,13,14,15]))))) (.seq (.gh (.ga (.reg none [jm 53 14,jm 54 12,jq 55 (.len false 54),ja 56 1 53 55,jk 57 56,jm 58 13,ja 59 1 57 58,jk 60 59,jm 17 60] [1,2,5,12,13,14,17]))) (.seq (js [jm 61 17,jb 62 .lss .i 61 (ki 0)] [1,2,5,12,13,14,17,62] (.cond 62 (js [jq 10 (.mv (.k (.c (.n 2)))),jm 11 kf] [10,11] .ret) .skip)) (js [jm 18 (ki 0)] [1,2,5,12,13,14,17,18] (.seq (.bl 2 (.seq (.seq (.gh (.ga (.reg none [jm 63 14,jm 64 18,ja 65 1 63 64,jk 66 65,jm 67 13,ja 68 1 66 67,jk 69 68,jm 70 17,jb 71 .neq .i 69 70] [1,2,5,12,13,14,17,18,71]))) (.cond 71 .skip (.exit 2))) (.block 3 (.reg none [jm 72 18,jb 73 .add .i 72 (ki 1),jm 18 73] [1,2,5,12,13,14,17,18])))) (js [jq 74 (.bsl 2 []),jm 19 74] [1,2,5,12,13,14,17,18,19] (.seq (.bl 4 (.seq (js [jm 75 18,jb 76 .gtr .i 75 (ki 0)] [1,2,5,12,13,14,17,18,19,76] (.cond 76 .skip (.exit 4))) (.seq (.block 5 (.seq (.gh (.ga (.reg (some [[],[],[],[],[],[4],[3,4,5],[3,4,5,6],[],[],[],[0,1,2,3,4,5,6,7,8,9,10],[0,1,2,3,4,5,6,7,8,9,10,11],[0,1,2,3,4,5,6,7,8,9,10,11,12],[0,1,2,3,4,5,6,7,8,9,10,11,12],[],[0,1,2,3,4,5,6,7,8,9,10,11,12,13,15],[0,1,2,3,4,5,6,7,8,9,10,11,12,13,14,15,16]]) [jl 80 3 5,jm 81 1,jm 82 12,jm 83 14,jm 84 18,jb 85 .sub .i 84 (ki 1),ja 86 1 83 85,jk 87 86,jm 88 2,jm 89 13,jm 90 17,jc 91 41 [80,81,82,87,88,89,90],jm 79 91,jq 92 (.ext 0 79),jq 93 (.ext 1 79),jq 20 (.alloc [.r (.v (.int .i64 0)),.r (.v (.int .i64 0))]),jp (.st 2 20 92),jm 21 93] [1,2,5,12,14,18,19,20,21]))) (.seq (js [jm 94 21,jq 95 (.not 94)] [1,2,5,12,14,18,19,20,95] (.cond 95 (js [jq 10 (.mv (.k (.c (.n 2)))),jm 11 kf] [10,11] .ret) .skip)) (js [jm 96 19,jl 97 2 20,jq 98 (.bsl 2 [97]),jq 99 (.app 2 16 true 96 98),jm 19 99] [1,2,5,12,14,18,19,
 20] (js [jm 100 12,jf 101 0 5,jk 102 101,jf 103 0 20,jk 104 103,ja 105 6 102 104,jf 106 0 105,jk 107 106,jc 108 39 [100,107],jm 13 108] [1,2,5,12,13,14,18,19] (.gh (.ga (.reg none [jm 109 14,jm 110 18,jb 111 .sub .i 110 (ki 1),ja 112 1 109 111,jk 113 112,jm 114 13,ja 115 1 113 114,jk 116 115,jm 17 116] [1,2,5,12,13,14,17,18,19])))))))) (.reg none [jm 77 18,jb 78 .sub .i 77 (ki 1),jm 18 78] [1,2,5,12,13,14,17,18,19])))) (js [jq 117 (.bsl 2 []),jm 22 117] [19,22] (.seq (js [jm 118 19,jq 119 (.len false 118),jb 120 .sub .i 119 (ki 1),jm 23 120] [19,22,23] (.bl 6 (.seq (js [jm 121 23,jb 122 .geq .i 121 (ki 0)] [19,22,23,122] (.cond 122 .skip (.exit 6))) (.seq (.block 7 (.reg none [jm 125 22,jm 126 19,jm 127 23,ja 128 2 126 127,jl 129 2 128,jq 130 (.bsl 2 [129]),jq 131 (.app 2 16 true 125 130),jm 22 131] [19,22,23])) (.reg none [jm 123 23,jb 124 .sub .i 123 (ki 1),jm 23 124] [19,22,23]))))) (js [jm 132 22,jm 10 132,jm 11 kt] [10,11] .ret)))))))))))))
def rv20:List RV:=[.t 10,.t 11]
def dn (g:G) (t:TE) (y3:List Trip):Nat→List Trip→Int→Option (List Trip)
 |0,_,_=>none
 |n4+1,w3,v6=>
  br (g.le 0 v6)
  (
   gd (((0:Int)≤v6∧v6<(((g.dlen (t.d_Trip y3)):Nat):Int)))<|
   gt y3 (g.nat v6) fun x13=>
   lP ([x13]) fun(l8:List Trip)=>
   gd (((w3.length+l8.length)*16≤70368744177664))<|
   lP (w3++l8) fun(l9:List Trip)=>
   dn g t y3 n4 l9 (g.wrap .i64 (g.sub v6 1)))
  (
   some w3)
def dj (g:G) (t:TE) (a0:Network) (a1:Fd) (a2:ByteArray) (x1:List ByteArray) (y1:List (List Int)):Nat→Int→Int→Int→List Trip→Option (LR ((List Trip)×Bool) (List Trip))
 |0,_,_,_,_=>none
 |n3+1,v3,v4,v5,w2=>
  br (g.lt 0 v5)
  (
   gt y1 (g.nat (g.wrap .i64 (g.sub v5 1))) fun x8=>
   gd (((0:Int)≤(g.wrap .i64 (g.sub v5 1))∧(g.wrap .i64 (g.sub v5 1))<(((g.dlen (t.d_LI64 y1)):Nat):Int)))<|
   cl (jU g t a0 a1 x1 x8 a2 v3 v4) fun x9=>
   br x9.2
   (
    lP ([(Trip.mk x9.1.Leg x9.1.Day)]) fun(l5:List Trip)=>
    gd (((w2.length+l5.length)*16≤70368744177664))<|
    lP (w2++l5) fun(l6:List Trip)=>
    gd (((0:Int)≤x9.1.Leg))<|
    gt a0.Legs (g.nat x9.1.Leg) fun x10=>
    lP (dc g t x1 x10.From) fun x11=>
    gd (((0:Int)≤(g.wrap .i64 (g.sub v5 1))∧(g.wrap .i64 (g.sub v5 1))<(((g.dlen (t.d_LI64 y1)):Nat):Int)))<|
    gd (((0:Int)≤x11∧x11<(((g.dlen (t.d_I64 x8)):Nat):Int)))<|
    gt x8 (g.nat x11) fun x12=>
    dj g t a0 a1 a2 x1 y1 n3 x11 x12 (g.wrap .i64 (g.sub v5 1)) l6)
   (
    some (LR.ret (([],false)))))
  (
   some (LR.out w2))
def dF (g:G) (t:TE) (x2:Int) (x5:Int) (y1:List (List Int)):Nat→Int→Option Int
 |0,_=>none
 |n2+1,v2=>
  gt y1 (g.nat v2) fun x6=>
  gd (((0:Int)≤v2∧v2<(((g.dlen (t.d_LI64 y1)):Nat):Int)))<|
  gd (((0:Int)≤x2∧x2<(((g.dlen (t.d_I64 x6)):Nat):Int)))<|
  gt x6 (g.nat x2) fun x7=>
  br (g.eq x7 x5)
  (
   some v2)
  (
   dF g t x2 x5 y1 n2 (g.wrap .i64 (g.add v2 1)))
def bz (g:G) (t:TE) (a0:Network) (a1:Fd) (a2:ByteArray) (a4:Int) (x2:Int):Nat→Int→List (List Int)→Option (LR ((List Trip)×Bool) (List (List Int)))
 |0,v1,w1=>
  some (LR.out w1)
 |n1+1,v1,w1=>
  cl (gj g t a0 a1 a2 a4 v1) fun x3=>
  br (g.eq (g.int (g.dlen (t.d_I64 x3))) 0)
  (
   some (LR.ret (([],false))))
  (
   br (g.lt x2 0)
   (
    some (LR.ret (([],false))))
   (
    lP ([x3]) fun(l2:List (List Int))=>
    gd (((w1.length+l2.length)*24≤70368744177664))<|
    lP (w1++l2) fun(l3:List (List Int))=>
    bz g t a0 a1 a2 a4 x2 n1 (g.wrap .i64 (g.add v1 1)) l3))
def gJ (g:G) (t:TE) (a0:Network) (a1:Fd) (a2:ByteArray) (a3:ByteArray) (a4:Int):Option ((List Trip)×Bool):=
 cl (fv g t a0) fun x1=>
 lP (dc g t x1 a3) fun x2=>
 lP ([]) fun(l1:List (List Int))=>
 gd (((g.int (g.dlen (t.d_S x1)))≤4611686018427387904))<|
 cl (bz g t a0 a1 a2 a4 x2 (ci 0 (g.int (g.dlen (t.d_S x1)))) 0 l1) fun o1=>lr o1 fun y1=>
 gt y1 (g.nat (g.int (g.dlen (t.d_S x1)))) fun x4=>
 gd (((0:Int)≤(g.int (g.dlen (t.d_S x1)))∧(g.int (g.dlen (t.d_S x1)))<(((g.dlen (t.d_LI64 y1)):Nat):Int)))<|
 gd (((0:Int)≤x2∧x2<(((g.dlen (t.d_I64 x4)):Nat):Int)))<|
 gt x4 (g.nat x2) fun x5=>
 br (g.lt x5 0)
 (
  some (([],false)))
 (
  cl (dF g t x2 x5 y1 1000000000 0) fun y2=>
  lP ([]) fun(l4:List Trip)=>
  cl (dj g t a0 a1 a2 x1 y1 1000000000 x2 x5 y2 l4) fun o3=>lr o3 fun y3=>
  lP ([]) fun(l7:List Trip)=>
  cl (dn g t y3 1000000000 l7 (g.wrap .i64 (g.sub (g.int (g.dlen (t.d_Trip y3))) 1))) fun y4=>
  some ((y4,true)))
theorem p6 {g:G} {t:TE} {a0:Network} {a1:Fd} {a2:ByteArray} {a3:ByteArray} {a4:Int} {r:(List Trip)×Bool} (hg:g=G.real) (ht:t=TE.real) (h:gJ g t a0 a1 a2 a3 a4=some r):Fn Try.prog 20 [.g (Network.rs t a0),.c (t.r_Fd a1),.c (.v (.string a2)),.c (.v (.string a3)),.c (.v (.int .i64 a4))] (.u [.c (.o 2 (t.d_Trip r.1)),.c (.r (.v (.bool r.2)))]):=by
 obtain⟨X,hX⟩:=aO (.u [.c (.o 2 (t.d_Trip r.1)),.c (.r (.v (.bool r.2)))]:X);rw[←hX];refine aN (rvs:=rv20) (j:=ir20) Try.func20 rfl (by kernel_rfl) (nb rfl) (by kernel_rfl) ac ?_;intro g2 F hg2 hF;obtain rfl:g2=g:=hg2.unique.trans hg.symm;clear hg2;obtain⟨wrap,lt,le,eq,_,_,_,_,_,_,_,nat,int,add,sub,_,_,_,_,_,_,_,_,_,dlen,_,_,_,rd⟩:=g2;obtain⟨_,d_U8,_,d_Booking,r_Leg,d_Leg,r_I64,d_I64,_,d_Trip,_,d_LI64,r_S,d_S,r_Fd⟩:=t
 obtain⟨a0_Legs,a0_Off,a0_Change⟩:=a0;have hnil_U8:d_U8 []=[]:=wN ht;have hnil_Booking:d_Booking []=[]:=pC ht;have hnil_Leg:d_Leg []=[]:=pR ht;have hnil_I64:d_I64 []=[]:=lY ht;have hnil_Trip:d_Trip []=[]:=kC ht;have hnil_LI64:d_LI64 []=[]:=tD ht;have hnil_S:d_S []=[]:=yO ht;unfold gJ at h;try dsimp only at h
 cbv;obtain⟨x1,hx1,h⟩:=ae h;try dsimp only at h
 refine ACall.mk _ _ rfl (hF _ _ _ (lu hg ht hx1)) (.inl rfl) (nb rfl) ?_;cbv;refine AStep.mk (fu ht (an hg ht _)) ?_;cbv;obtain⟨x2,hx2,h⟩:=af h;try dsimp only at h
 refine ACall.mk _ _ (by rw[show rd (d_S x1) 0 (dlen (d_S x1))=r_S x1 from hN hg ht (an hg ht _)];try rfl) (hF _ _ _ (ez hg ht hx2)) (.inr rfl) (nb rfl) ?_
 cbv;obtain⟨l1,hl1,h⟩:=af h;try dsimp only at h
 refine ANew.mk (d_LI64 l1) (dlen (d_LI64 l1)) (by rw[←hl1];exact rO hg ht []) (by rw[←hl1];exact p7 hg ht []) ?_;cbv;obtain⟨hB1,h⟩:=aj h;obtain⟨o1,ho1,h⟩:=ae h;try dsimp only at h
 try rw[hg] at ho1
 try rw[ht] at ho1
 refine ABL.mk {p:Nat×Int×List (List Int)//p.1=ci p.2.1 (int (dlen (d_S x1)))∧0≤p.2.1∧bz G.real TE.real (Network.mk a0_Legs a0_Off a0_Change) a1 a2 a4 x2 p.1 p.2.1 p.2.2=some o1} (fun⟨⟨n1,v1,w1⟩,_⟩=>({sl:=[(1,.c (.r (r_Fd a1))),(2,.c (.r (.v (.string a2)))),(4,.c (.r (.v (.int .i64 a4)))),(5,.c (.p 0 3 0 0)),(12,.c (.f 1 1 0 (dlen (d_S x1)))),(13,.c (.r (.v (.int .i64 x2)))),(14,.c (.f 2 1 0 (dlen (d_LI64 w1)))),(15,.c (.r (.v (.int .i64 v1))))],tab:=[(0,some (.foc 3 [] [.r (.s 6 (r_Leg a0_Legs)),.r (.s 1 (r_I64 a0_Off)),.r (.v (.int .i64 a0_Change))] [])),(1,some (.arr 1 (d_S x1))),(2,some (.arr 1 (d_LI64 w1)))]}:St)) 3 (fun p=>p.1.1) ⟨(ci 0 (int (dlen (d_S x1))),0,l1),rfl,Int.le_refl _,ho1⟩ (List (List Int)) (fun y1=>({sl:=[(1,.c (.r (r_Fd a1))),(2,.c (.r (.v (.string a2)))),(5,.c (.p 0 3 0 0)),(12,.c (.f 1 1 0 (dlen (d_S x1)))),(13,.c (.r (.v (.int .i64 x2)))),(14,.c (.f 2 1 0 (dlen (d_LI64 y1))))],tab:=[(0,some (.foc 3 [] [.r (.s 6 (r_Leg a0_Legs)),.r (.s 1 (r_I64 a0_Off)),.r (.v (.int .i64 a0_Change))] [])),(1,some (.arr 1 (d_S x1))),(2,some (.arr 1 (d_LI64 y1)))]}:St)) 3 (fun y=>o1=LR.out y) ?_ ?_ ?_
 ·refine Wk.of [(0,some 0),(1,some 64),(2,some 160)] rfl rfl ?_ ?_
  ·cbv;all_goals exact⟨⟨_,rfl,rfl⟩,⟨_,rfl,rfl⟩,⟨_,rfl,rfl⟩,⟨_,rfl,rfl⟩,⟨_,rfl,rfl⟩,⟨_,rfl,rfl⟩,⟨_,rfl,rfl⟩,⟨_,rfl,rfl⟩,trivial⟩
  cbv;all_goals exact⟨⟨_,rfl,_,rfl,rfl,rfl,rfl,trivial⟩,⟨_,rfl,rfl⟩,⟨_,rfl,rfl⟩,trivial⟩
 ·rintro⟨⟨n1,v1,w1⟩,hn1,hi1,h_1⟩ hq1;try dsimp only at hn1 hi1 h_1
  clear hq1;cbv;rcases n1 with _|n1
  ·have hb1:le v1 (int (dlen (d_S x1)))=false:=hM hg hn1;rw[bz] at h_1;try rw[←hg] at h_1
   try rw[←ht] at h_1
   try dsimp only at h_1
   rw[hb1];cbv;refine⟨w1,Wk.of [(0,some 0),(1,some 1),(2,some 2)] rfl rfl ?_ ?_,(Option.some.inj h_1).symm⟩
   ·cbv;all_goals exact⟨⟨_,rfl,rfl⟩,⟨_,rfl,rfl⟩,⟨_,rfl,rfl⟩,⟨_,rfl,rfl⟩,⟨_,rfl,rfl⟩,⟨_,rfl,rfl⟩,trivial⟩
   cbv;all_goals exact⟨⟨_,rfl,_,rfl,rfl,rfl,rfl,trivial⟩,⟨_,rfl,rfl⟩,⟨_,rfl,rfl⟩,trivial⟩
  have hb1:le v1 (int (dlen (d_S x1)))=true:=jg hg hn1;have hl1:=oN hn1;have hs1:=ln hg hn1 hi1 hB1 (by decide);rw[bz] at h_1;try rw[←hg] at h_1
  try rw[←ht] at h_1
  try dsimp only at h_1
  rw[hb1];cbv;obtain⟨x3,hx3,h_1⟩:=ae h_1;try dsimp only at h_1
  refine ACall.mk _ _ rfl (hF _ _ _ (rf hg ht hx3)) (.inl rfl) (nb rfl) ?_;cbv
  cases hb2:(eq (int (dlen (d_I64 x3))) 0)
  rotate_left
  ·rw[ab hb2] at h_1;cbv;iterate 2 try(rw[hb2];cbv)
   obtain rfl:=Option.some.inj h_1;try dsimp only[lr,lrL,lrp,aH] at h
   obtain rfl:=Option.some.inj h;exact ARet.mk trivial (by rw[hX];first|rfl|(simp only[Trip.ds,Booking.ds,Leg.ds,Network.ds,Cur.ds,hnil_Trip];try rfl))
  rw[aa hb2] at h_1;cbv;iterate 2 try(rw[hb2];cbv)
  cases hb3:(lt x2 0)
  rotate_left
  ·rw[ab hb3] at h_1;cbv;obtain rfl:=Option.some.inj h_1;try dsimp only[lr,lrL,lrp,aH] at h
   obtain rfl:=Option.some.inj h;exact ARet.mk trivial (by rw[hX];first|rfl|(simp only[Trip.ds,Booking.ds,Leg.ds,Network.ds,Cur.ds,hnil_Trip];try rfl))
  rw[aa hb3] at h_1;cbv;refine AStep.mk ⟨rfl,(ak hg ht _)⟩ ?_;cbv;obtain⟨l2,hl2,h_1⟩:=af h_1;try dsimp only at h_1
  refine ANew.mk (d_LI64 l2) (dlen (d_LI64 l2)) (by rw[←hl2];have e:=rO hg ht [x3];dsimp only[List.map,LI64.ds] at e;(try simp only[hnil_U8,hnil_Booking,hnil_Leg,hnil_I64,hnil_Trip,hnil_LI64,hnil_S] at e);exact e) (by rw[←hl2];exact p7 hg ht [x3]) ?_;cbv;obtain⟨hc1,h_1⟩:=aj h_1;refine AStep.mk ⟨⟨rfl,(jQ hg ht _)⟩,(rL hg ht (jQ hg ht _) rfl hc1)⟩ ?_;cbv;obtain⟨l3,hl3,h_1⟩:=af h_1;try dsimp only at h_1
  refine ANew.mk (d_LI64 l3) (dlen (d_LI64 l3)) (by rw[←hl3];exact yJ hg ht (jQ hg ht _) rfl) (by rw[←hl3];exact wc hg ht (jQ hg ht _) rfl) ?_;cbv;try rw[hg] at h_1
  try rw[ht] at h_1
  refine⟨⟨(n1,(wrap .i64 (add v1 1)),l3),hs1.1,hs1.2,h_1⟩,Wk.of [(0,some 0),(1,some 1),(2,some 339)] rfl rfl ?_ ?_,Nat.lt_succ_self _⟩
  ·cbv;all_goals exact⟨⟨_,rfl,rfl⟩,⟨_,rfl,rfl⟩,⟨_,rfl,rfl⟩,⟨_,rfl,rfl⟩,⟨_,rfl,rfl⟩,⟨_,rfl,rfl⟩,⟨_,rfl,rfl⟩,⟨_,rfl,rfl⟩,trivial⟩
  cbv;all_goals exact⟨⟨_,rfl,_,rfl,rfl,rfl,rfl,trivial⟩,⟨_,rfl,rfl⟩,⟨_,rfl,rfl⟩,trivial⟩
 rintro y1 hy1;replace hy1:=hy1.symm;subst hy1;try dsimp only[lr,lrL,lrp,aH] at h
 cbv;obtain⟨x4,hx4,h⟩:=aQ h;try dsimp only at h
 refine AGh.opn 2 1 (nat (int (dlen (d_S x1)))) (d_LI64 y1) _ rfl (iL hg ht hx4) rfl ?_;cbv;refine AGh.nil ?_;cbv;obtain⟨hc2,h⟩:=aj h;refine AStep.mk hc2 ?_;cbv;refine AStep.mk rfl ?_;cbv;obtain⟨hc3,h⟩:=aj h;refine AStep.mk hc3 ?_;cbv;obtain⟨x5,hx5,h⟩:=aQ h;try dsimp only at h
 refine AGet.mk _ (ba hg ht hx5) ?_;cbv;refine AGh.cls 2 1 (nat (int (dlen (d_S x1)))) (d_LI64 y1) _ _ _ _ (d_LI64 y1) rfl rfl ⟨rfl,(ak hg ht _)⟩ (iv hg ht hx4) ?_;cbv;refine AGh.nil ?_;cbv
 cases hb4:(lt x5 0)
 rotate_left
 ·rw[ab hb4] at h;cbv;obtain rfl:=Option.some.inj h;exact ARet.mk trivial (by rw[hX];first|rfl|(simp only[Trip.ds,Booking.ds,Leg.ds,Network.ds,Cur.ds,hnil_Trip];try rfl))
 rw[aa hb4] at h;cbv;obtain⟨o2,ho2,h⟩:=ae h;try dsimp only at h
 try rw[hg] at ho2
 try rw[ht] at ho2
 refine ABL.mk {p:Nat×Int//dF G.real TE.real x2 x5 y1 p.1 p.2=some o2} (fun⟨⟨n2,v2⟩,_⟩=>({sl:=[(1,.c (.r (r_Fd a1))),(2,.c (.r (.v (.string a2)))),(5,.c (.p 0 3 0 0)),(12,.c (.f 1 1 0 (dlen (d_S x1)))),(13,.c (.r (.v (.int .i64 x2)))),(14,.c (.f 2 1 0 (dlen (d_LI64 y1)))),(17,.c (.r (.v (.int .i64 x5)))),(18,.c (.r (.v (.int .i64 v2))))],tab:=[(0,some (.foc 3 [] [.r (.s 6 (r_Leg a0_Legs)),.r (.s 1 (r_I64 a0_Off)),.r (.v (.int .i64 a0_Change))] [])),(1,some (.arr 1 (d_S x1))),(2,some (.arr 1 (d_LI64 y1)))]}:St)) 3 (fun p=>p.1.1) ⟨(1000000000,0),ho2⟩ (Int) (fun y2=>({sl:=[(1,.c (.r (r_Fd a1))),(2,.c (.r (.v (.string a2)))),(5,.c (.p 0 3 0 0)),(12,.c (.f 1 1 0 (dlen (d_S x1)))),(13,.c (.r (.v (.int .i64 x2)))),(14,.c (.f 2 1 0 (dlen (d_LI64 y1)))),(17,.c (.r (.v (.int .i64 x5)))),(18,.c (.r (.v (.int .i64 y2))))],tab:=[(0,some (.foc 3 [] [.r (.s 6 (r_Leg a0_Legs)),.r (.s 1 (r_I64 a0_Off)),.r (.v (.int .i64 a0_Change))] [])),(1,some (.arr 1 (d_S x1))),(2,some (.arr 1 (d_LI64 y1)))]}:St)) 3 (fun y=>o2=y) ?_ ?_ ?_
 ·refine Wk.of [(0,some 0),(1,some 1),(2,some 2)] rfl rfl ?_ ?_
  ·cbv;all_goals exact⟨⟨_,rfl,rfl⟩,⟨_,rfl,rfl⟩,⟨_,rfl,rfl⟩,⟨_,rfl,rfl⟩,⟨_,rfl,rfl⟩,⟨_,rfl,rfl⟩,⟨_,rfl,rfl⟩,⟨_,rfl,rfl⟩,trivial⟩
  cbv;all_goals exact⟨⟨_,rfl,_,rfl,rfl,rfl,rfl,trivial⟩,⟨_,rfl,rfl⟩,⟨_,rfl,rfl⟩,trivial⟩
 ·rintro⟨⟨n2,v2⟩,h_2⟩ hq2;try dsimp only at h_2
  clear hq2;rcases n2 with _|n2
  ·rw[dF] at h_2;cases h_2
  rw[dF] at h_2;try rw[←hg] at h_2
  try rw[←ht] at h_2
  try dsimp only at h_2
  cbv;obtain⟨x6,hx6,h_2⟩:=aQ h_2;try dsimp only at h_2
  refine AGh.opn 2 1 (nat v2) (d_LI64 y1) _ rfl (iL hg ht hx6) rfl ?_;cbv;refine AGh.nil ?_;cbv;obtain⟨hc4,h_2⟩:=aj h_2;refine AStep.mk hc4 ?_;cbv;refine AStep.mk rfl ?_;cbv;obtain⟨hc5,h_2⟩:=aj h_2;refine AStep.mk hc5 ?_;cbv;obtain⟨x7,hx7,h_2⟩:=aQ h_2;try dsimp only at h_2
  refine AGet.mk _ (ba hg ht hx7) ?_;cbv;refine AGh.cls 2 1 (nat v2) (d_LI64 y1) _ _ _ _ (d_LI64 y1) rfl rfl ⟨rfl,(ak hg ht _)⟩ (iv hg ht hx6) ?_;cbv;refine AGh.nil ?_;cbv
  cases hb5:(eq x7 x5)
  rotate_left
  ·rw[ab hb5] at h_2;cbv;refine⟨v2,Wk.of [(0,some 0),(1,some 1),(2,some 2)] rfl rfl ?_ ?_,(Option.some.inj h_2).symm⟩
   ·cbv;all_goals exact⟨⟨_,rfl,rfl⟩,⟨_,rfl,rfl⟩,⟨_,rfl,rfl⟩,⟨_,rfl,rfl⟩,⟨_,rfl,rfl⟩,⟨_,rfl,rfl⟩,⟨_,rfl,rfl⟩,⟨_,rfl,rfl⟩,trivial⟩
   cbv;all_goals exact⟨⟨_,rfl,_,rfl,rfl,rfl,rfl,trivial⟩,⟨_,rfl,rfl⟩,⟨_,rfl,rfl⟩,trivial⟩
  rw[aa hb5] at h_2;cbv;try rw[hg] at h_2
  try rw[ht] at h_2
  refine⟨⟨(n2,(wrap .i64 (add v2 1))),h_2⟩,Wk.of [(0,some 0),(1,some 1),(2,some 2)] rfl rfl ?_ ?_,Nat.lt_succ_self _⟩
  ·cbv;all_goals exact⟨⟨_,rfl,rfl⟩,⟨_,rfl,rfl⟩,⟨_,rfl,rfl⟩,⟨_,rfl,rfl⟩,⟨_,rfl,rfl⟩,⟨_,rfl,rfl⟩,⟨_,rfl,rfl⟩,⟨_,rfl,rfl⟩,trivial⟩
  cbv;all_goals exact⟨⟨_,rfl,_,rfl,rfl,rfl,rfl,trivial⟩,⟨_,rfl,rfl⟩,⟨_,rfl,rfl⟩,trivial⟩
 rintro y2 hy2;replace hy2:=hy2.symm;subst hy2;try dsimp only[lr,lrL,lrp,aH] at h
 cbv;obtain⟨l4,hl4,h⟩:=af h;try dsimp only at h
 refine ANew.mk (d_Trip l4) (dlen (d_Trip l4)) (by rw[←hl4];exact eZ hg ht []) (by rw[←hl4];exact dZ hg ht []) ?_;cbv;obtain⟨o3,ho3,h⟩:=ae h;try dsimp only at h
 try rw[hg] at ho3
 try rw[ht] at ho3
 refine ABL.mk {p:Nat×Int×Int×Int×List Trip//dj G.real TE.real (Network.mk a0_Legs a0_Off a0_Change) a1 a2 x1 y1 p.1 p.2.1 p.2.2.1 p.2.2.2.1 p.2.2.2.2=some o3} (fun⟨⟨n3,v3,v4,v5,w2⟩,_⟩=>({sl:=[(1,.c (.r (r_Fd a1))),(2,.c (.r (.v (.string a2)))),(5,.c (.p 0 3 0 0)),(12,.c (.f 1 1 0 (dlen (d_S x1)))),(13,.c (.r (.v (.int .i64 v3)))),(14,.c (.f 2 1 0 (dlen (d_LI64 y1)))),(17,.c (.r (.v (.int .i64 v4)))),(18,.c (.r (.v (.int .i64 v5)))),(19,.c (.f 3 2 0 (dlen (d_Trip w2))))],tab:=[(0,some (.foc 3 [] [.r (.s 6 (r_Leg a0_Legs)),.r (.s 1 (r_I64 a0_Off)),.r (.v (.int .i64 a0_Change))] [])),(1,some (.arr 1 (d_S x1))),(2,some (.arr 1 (d_LI64 y1))),(3,some (.arr 2 (d_Trip w2)))]}:St)) 4 (fun p=>p.1.1) ⟨(1000000000,x2,x5,y2,l4),ho3⟩ (List Trip) (fun y3=>({sl:=[(19,.c (.f 0 2 0 (dlen (d_Trip y3))))],tab:=[(0,some (.arr 2 (d_Trip y3)))]}:St)) 1 (fun y=>o3=LR.out y) ?_ ?_ ?_
 ·refine Wk.of [(0,some 0),(1,some 1),(2,some 2),(3,some 3)] rfl rfl ?_ ?_
  ·cbv;all_goals exact⟨⟨_,rfl,rfl⟩,⟨_,rfl,rfl⟩,⟨_,rfl,rfl⟩,⟨_,rfl,rfl⟩,⟨_,rfl,rfl⟩,⟨_,rfl,rfl⟩,⟨_,rfl,rfl⟩,⟨_,rfl,rfl⟩,⟨_,rfl,rfl⟩,trivial⟩
  cbv;all_goals exact⟨⟨_,rfl,_,rfl,rfl,rfl,rfl,trivial⟩,⟨_,rfl,rfl⟩,⟨_,rfl,rfl⟩,⟨_,rfl,rfl⟩,trivial⟩
 ·rintro⟨⟨n3,v3,v4,v5,w2⟩,h_3⟩ hq3;try dsimp only at h_3
  clear hq3;rcases n3 with _|n3
  ·rw[dj] at h_3;cases h_3
  rw[dj] at h_3;try rw[←hg] at h_3
  try rw[←ht] at h_3
  try dsimp only at h_3
  cbv
  cases hb6:(lt 0 v5)
  ·rw[aa hb6] at h_3;cbv;refine⟨w2,Wk.of [(0,some 3)] rfl rfl ?_ ?_,(Option.some.inj h_3).symm⟩
   ·cbv;all_goals exact⟨⟨_,rfl,rfl⟩,trivial⟩
   cbv;all_goals exact⟨⟨_,rfl,rfl⟩,trivial⟩
  rw[ab hb6] at h_3;cbv;obtain⟨x8,hx8,h_3⟩:=aQ h_3;try dsimp only at h_3
  refine AGh.opn 2 1 (nat (wrap .i64 (sub v5 1))) (d_LI64 y1) _ rfl (iL hg ht hx8) rfl ?_;cbv;refine AGh.nil ?_;cbv;obtain⟨hc6,h_3⟩:=aj h_3;refine AStep.mk hc6 ?_;cbv;refine AStep.mk rfl ?_;cbv;refine AStep.mk ⟨(fu ht (an hg ht _)),(k8 ht (ak hg ht _))⟩ ?_;cbv;obtain⟨x9,hx9,h_3⟩:=ae h_3;obtain⟨⟨x9_1_Leg,x9_1_Day⟩,x9_2⟩:=x9;try dsimp only at h_3
  refine ACall.mk _ _ (by rw[show rd (d_S x1) 0 (dlen (d_S x1))=r_S x1 from hN hg ht (an hg ht _),show rd (d_I64 x8) 0 (dlen (d_I64 x8))=r_I64 x8 from nJ hg ht (ak hg ht _)];try rfl) (hF _ _ _ (tr hg ht hx9)) (.inr (by simp only[Go.Vs.X.fresh,Go.Vs.X.freshs,dQ,bB,Bool.and_self,Trip.ds])) (nb rfl) ?_
  cbv;refine AGh.cls 2 1 (nat (wrap .i64 (sub v5 1))) (d_LI64 y1) _ _ _ _ (d_LI64 y1) rfl rfl ⟨rfl,(ak hg ht _)⟩ (iv hg ht hx8) ?_;cbv;refine AGh.nil ?_;cbv;have hb7:x9_2=true∨x9_2=false:=by cases x9_2<;>simp
  rcases hb7 with hb7|hb7
  ·rw[ab hb7] at h_3;have hK_:=h_3;subst hb7;have h_3:=hK_;clear hK_;cbv;obtain⟨l5,hl5,h_3⟩:=af h_3;try dsimp only at h_3
   refine ANew.mk (d_Trip l5) (dlen (d_Trip l5)) (by rw[←hl5];exact eZ hg ht [(Trip.mk x9_1_Leg x9_1_Day)]) (by rw[←hl5];exact dZ hg ht [(Trip.mk x9_1_Leg x9_1_Day)]) ?_;cbv;obtain⟨hc10,h_3⟩:=aj h_3;refine AStep.mk ⟨⟨rfl,(au hg ht _)⟩,(gM hg ht (au hg ht _) rfl hc10)⟩ ?_;cbv;obtain⟨l6,hl6,h_3⟩:=af h_3;try dsimp only at h_3
   refine ANew.mk (d_Trip l6) (dlen (d_Trip l6)) (by rw[←hl6];exact lM hg ht (au hg ht _) rfl) (by rw[←hl6];exact j5 hg ht (au hg ht _) rfl) ?_;cbv;obtain⟨hc7,h_3⟩:=aj h_3;refine AStep.mk hc7 ?_;cbv;obtain⟨x10,hx10,h_3⟩:=aQ h_3;obtain⟨x10_From,x10_To,x10_Start,x10_Takes,x10_Days,x10_Room⟩:=x10;try dsimp only at h_3
   refine AGet.mk _ (bA hg ht hx10) ?_;cbv;refine AStep.mk (fu ht (an hg ht _)) ?_;cbv;obtain⟨x11,hx11,h_3⟩:=af h_3;try dsimp only at h_3
   refine ACall.mk _ _ (by rw[show rd (d_S x1) 0 (dlen (d_S x1))=r_S x1 from hN hg ht (an hg ht _)];try rfl) (hF _ _ _ (ez hg ht hx11)) (.inr rfl) (nb rfl) ?_
   cbv;refine AGh.opn 2 1 (nat (wrap .i64 (sub v5 1))) (d_LI64 y1) _ rfl (iL hg ht hx8) rfl ?_;cbv;refine AGh.nil ?_;cbv;obtain⟨hc8,h_3⟩:=aj h_3;refine AStep.mk hc8 ?_;cbv;refine AStep.mk rfl ?_;cbv;obtain⟨hc9,h_3⟩:=aj h_3;refine AStep.mk hc9 ?_;cbv;obtain⟨x12,hx12,h_3⟩:=aQ h_3;try dsimp only at h_3
   refine AGet.mk _ (ba hg ht hx12) ?_;cbv;refine AGh.cls 2 1 (nat (wrap .i64 (sub v5 1))) (d_LI64 y1) _ _ _ _ (d_LI64 y1) rfl rfl ⟨rfl,(ak hg ht _)⟩ (iv hg ht hx8) ?_;cbv;refine AGh.nil ?_;cbv;try rw[hg] at h_3
   try rw[ht] at h_3
   refine⟨⟨(n3,x11,x12,(wrap .i64 (sub v5 1)),l6),h_3⟩,Wk.of [(0,some 0),(1,some 1),(2,some 2),(3,some 420)] rfl rfl ?_ ?_,Nat.lt_succ_self _⟩
   ·cbv;all_goals exact⟨⟨_,rfl,rfl⟩,⟨_,rfl,rfl⟩,⟨_,rfl,rfl⟩,⟨_,rfl,rfl⟩,⟨_,rfl,rfl⟩,⟨_,rfl,rfl⟩,⟨_,rfl,rfl⟩,⟨_,rfl,rfl⟩,⟨_,rfl,rfl⟩,trivial⟩
   cbv;all_goals exact⟨⟨_,rfl,_,rfl,rfl,rfl,rfl,trivial⟩,⟨_,rfl,rfl⟩,⟨_,rfl,rfl⟩,⟨_,rfl,rfl⟩,trivial⟩
  rw[aa hb7] at h_3;have hK_:=h_3;subst hb7;have h_3:=hK_;clear hK_;cbv;obtain rfl:=Option.some.inj h_3;try dsimp only[lr,lrL,lrp,aH] at h
  obtain rfl:=Option.some.inj h;exact ARet.mk trivial (by rw[hX];first|rfl|(simp only[Trip.ds,Booking.ds,Leg.ds,Network.ds,Cur.ds,hnil_Trip];try rfl))
 rintro y3 hy3;replace hy3:=hy3.symm;subst hy3;try dsimp only[lr,lrL,lrp,aH] at h
 cbv;obtain⟨l7,hl7,h⟩:=af h;try dsimp only at h
 refine ANew.mk (d_Trip l7) (dlen (d_Trip l7)) (by rw[←hl7];exact eZ hg ht []) (by rw[←hl7];exact dZ hg ht []) ?_;cbv;obtain⟨o4,ho4,h⟩:=ae h;try dsimp only at h
 try rw[hg] at ho4
 try rw[ht] at ho4
 refine ABL.mk {p:Nat×(List Trip)×Int//dn G.real TE.real y3 p.1 p.2.1 p.2.2=some o4} (fun⟨⟨n4,w3,v6⟩,_⟩=>({sl:=[(19,.c (.f 0 2 0 (dlen (d_Trip y3)))),(22,.c (.f 1 2 0 (dlen (d_Trip w3)))),(23,.c (.r (.v (.int .i64 v6))))],tab:=[(0,some (.arr 2 (d_Trip y3))),(1,some (.arr 2 (d_Trip w3)))]}:St)) 2 (fun p=>p.1.1) ⟨(1000000000,l7,(wrap .i64 (sub (int (dlen (d_Trip y3))) 1))),ho4⟩ (List Trip) (fun y4=>({sl:=[(22,.c (.f 0 2 0 (dlen (d_Trip y4))))],tab:=[(0,some (.arr 2 (d_Trip y4)))]}:St)) 1 (fun y=>o4=y) ?_ ?_ ?_
 ·refine Wk.of [(0,some 0),(1,some 1)] rfl rfl ?_ ?_
  ·cbv;all_goals exact⟨⟨_,rfl,rfl⟩,⟨_,rfl,rfl⟩,⟨_,rfl,rfl⟩,trivial⟩
  cbv;all_goals exact⟨⟨_,rfl,rfl⟩,⟨_,rfl,rfl⟩,trivial⟩
 ·rintro⟨⟨n4,w3,v6⟩,h_4⟩ hq4;try dsimp only at h_4
  clear hq4;rcases n4 with _|n4
  ·rw[dn] at h_4;cases h_4
  rw[dn] at h_4;try rw[←hg] at h_4
  try rw[←ht] at h_4
  try dsimp only at h_4
  cbv
  cases hb8:(le 0 v6)
  ·rw[aa hb8] at h_4;cbv;refine⟨w3,Wk.of [(0,some 1)] rfl rfl ?_ ?_,(Option.some.inj h_4).symm⟩
   ·cbv;all_goals exact⟨⟨_,rfl,rfl⟩,trivial⟩
   cbv;all_goals exact⟨⟨_,rfl,rfl⟩,trivial⟩
  rw[ab hb8] at h_4;cbv;obtain⟨hc11,h_4⟩:=aj h_4;refine AStep.mk hc11 ?_;cbv;obtain⟨x13,hx13,h_4⟩:=aQ h_4;obtain⟨x13_Leg,x13_Day⟩:=x13;try dsimp only at h_4
  refine AGet.mk _ (tE hg ht hx13) ?_;cbv;obtain⟨l8,hl8,h_4⟩:=af h_4;try dsimp only at h_4
  refine ANew.mk (d_Trip l8) (dlen (d_Trip l8)) (by rw[←hl8];exact eZ hg ht [(Trip.mk x13_Leg x13_Day)]) (by rw[←hl8];exact dZ hg ht [(Trip.mk x13_Leg x13_Day)]) ?_;cbv;obtain⟨hc12,h_4⟩:=aj h_4;refine AStep.mk ⟨⟨rfl,(au hg ht _)⟩,(gM hg ht (au hg ht _) rfl hc12)⟩ ?_;cbv;obtain⟨l9,hl9,h_4⟩:=af h_4;try dsimp only at h_4
  refine ANew.mk (d_Trip l9) (dlen (d_Trip l9)) (by rw[←hl9];exact lM hg ht (au hg ht _) rfl) (by rw[←hl9];exact j5 hg ht (au hg ht _) rfl) ?_;cbv;try rw[hg] at h_4
  try rw[ht] at h_4
  refine⟨⟨(n4,l9,(wrap .i64 (sub v6 1))),h_4⟩,Wk.of [(0,some 0),(1,some 130)] rfl rfl ?_ ?_,Nat.lt_succ_self _⟩
  ·cbv;all_goals exact⟨⟨_,rfl,rfl⟩,⟨_,rfl,rfl⟩,⟨_,rfl,rfl⟩,trivial⟩
  cbv;all_goals exact⟨⟨_,rfl,rfl⟩,⟨_,rfl,rfl⟩,trivial⟩
 rintro y4 hy4;replace hy4:=hy4.symm;subst hy4;try dsimp only[lr,lrL,lrp,aH] at h
 cbv;obtain rfl:=Option.some.inj h;exact ARet.mk ⟨rfl,(au hg ht _)⟩ hX.symm
def ir21:J:=js [jq 4 (.box 0),jq 5 (.box 1),jq 6 (.box 2),jq 7 (.box 3),jq 8 (.mv (.k (.c .un)))] [4,5,6,7] (js [jq 9 (.clo false 42 [4,6,5,7]),jm 8 9] [8] .ret)
def rv21:List RV:=[.t 8]
def iY (g:G) (t:TE) (a0:Network) (a1:List Booking) (a2:List Trip) (a3:Int):Fd:=
 (Fd.I_freeOf_1 a0 a2 a1 a3)
theorem tK {g:G} {t:TE} {a0:Network} {a1:List Booking} {a2:List Trip} {a3:Int} {r:Fd} (hg:g=G.real) (ht:t=TE.real) (h:iY g t a0 a1 a2 a3=r):Fn Try.prog 21 [.g (Network.rs t a0),.c (.s 4 (t.r_Booking a1)),.c (.s 2 (t.r_Trip a2)),.c (.v (.int .i64 a3))] (.c (.r (t.r_Fd r))):=by
 obtain⟨X,hX⟩:=aO (.c (.r (t.r_Fd r)):X);rw[←hX];refine aN (rvs:=rv21) (j:=ir21) Try.func21 rfl (by kernel_rfl) (nb rfl) (by kernel_rfl) ac ?_;intro g2 F hg2 hF;obtain rfl:g2=g:=hg2.unique.trans hg.symm;clear hg2;obtain⟨_⟩:=g2;obtain⟨_,_,_,_,_,_,_,_,_,_,_,_,_,_,r_Fd⟩:=t
 obtain⟨a0_Legs,a0_Off,a0_Change⟩:=a0;unfold iY at h;try dsimp only at h
 cbv;refine AClo.mk (r_Fd (Fd.I_freeOf_1 (Network.mk a0_Legs a0_Off a0_Change) a2 a1 a3)) (jr ht (Network.mk a0_Legs a0_Off a0_Change) a2 a1 a3) ?_;cbv;subst h;exact ARet.mk trivial hX.symm
def ir6:J:=js [jq 7 (.box 0),jq 14 (.mv (.k (.c (.n 2)))),jm 15 kf] [1,2,3,4,5,6,7] (.seq (js [jl 18 3 7,jm 19 1,jc 20 19 [18,19],jq 21 (.not 20),jm 22 21,jv 23 22 (.mv 6),jv 24 22 (.bin .lss .i 23 (ki 1)),jq 25 (.pick 22 kt 24)] [1,2,3,4,5,6,7,25] (.cond 25 (js [jq 14 (.mv (.k (.c (.n 2)))),jm 15 kf] [14,15] .ret) .skip)) (.seq (.reg (some [[],[],[],[],[],[1,2,3,4],[],[],[],[0,1,2,3,4,5,6,7,8],[0,1,2,3,4,5,6,7,8,9],[0,1,2,3,4,5,6,7,8,9,10],[0,1,2,3,4,5,6,7,8,9,10],[0,1,2,3,4,5,6,7,8,9,10,11],[0,1,2,3,4,5,6,7,8,9,10,11,12,13]]) [jl 27 3 7,jl 28 3 7,jm 29 1,jm 30 2,jm 31 6,jc 32 21 [28,29,30,31],jm 33 3,jm 34 4,jm 35 5,jc 36 20 [27,32,33,34,35],jm 26 36,jq 37 (.ext 0 26),jq 38 (.ext 1 26),jm 16 37,jm 17 38] [16,17]) (js [jm 39 16,jm 40 17,jm 14 39,jm 15 40] [14,15] .ret)))
def rv6:List RV:=[.t 14,.t 15]
def dI (g:G) (t:TE) (a0:Network) (a1:List Booking) (a2:List Trip) (a3:ByteArray) (a4:ByteArray) (a5:Int) (a6:Int):Option ((List Trip)×Bool):=
 cl (ec g t a0 a1) fun x1=>
 br x1
 (
  br (g.lt a6 1)
  (
   some (([],false)))
  (
   lP (iY g t a0 a1 a2 a6) fun x2=>
   cl (gJ g t a0 x2 a3 a4 a5) fun x3=>
   some ((x3.1,x3.2))))
 (
  some (([],false)))
theorem rk {g:G} {t:TE} {a0:Network} {a1:List Booking} {a2:List Trip} {a3:ByteArray} {a4:ByteArray} {a5:Int} {a6:Int} {r:(List Trip)×Bool} (hg:g=G.real) (ht:t=TE.real) (h:dI g t a0 a1 a2 a3 a4 a5 a6=some r):Fn Try.prog 6 [.g (Network.rs t a0),.c (.s 4 (t.r_Booking a1)),.c (.s 2 (t.r_Trip a2)),.c (.v (.string a3)),.c (.v (.string a4)),.c (.v (.int .i64 a5)),.c (.v (.int .i64 a6))] (.u [.c (.o 2 (t.d_Trip r.1)),.c (.r (.v (.bool r.2)))]):=by
 obtain⟨X,hX⟩:=aO (.u [.c (.o 2 (t.d_Trip r.1)),.c (.r (.v (.bool r.2)))]:X);rw[←hX];refine aN (rvs:=rv6) (j:=ir6) Try.func6 rfl (by kernel_rfl) (nb rfl) (by kernel_rfl) ac ?_;intro g2 F hg2 hF;obtain rfl:g2=g:=hg2.unique.trans hg.symm;clear hg2;obtain⟨_,lt⟩:=g2;obtain⟨_,_,_,_,_,_,_,_,_,d_Trip⟩:=t
 obtain⟨a0_Legs,a0_Off,a0_Change⟩:=a0;have hnil_Trip:d_Trip []=[]:=kC ht;unfold dI at h;try dsimp only at h
 cbv;obtain⟨x1,hx1,h⟩:=ae h;try dsimp only at h
 refine ACall.mk _ _ rfl (hF _ _ _ (ny hg ht hx1)) (.inl rfl) (nb rfl) ?_;cbv
 cases hb1:x1
 ·rw[aa hb1] at h;cbv;iterate 2 try(rw[hb1];cbv)
  obtain rfl:=Option.some.inj h;exact ARet.mk trivial (by rw[hX];first|rfl|(simp only[Trip.ds,Booking.ds,Leg.ds,Network.ds,Cur.ds,hnil_Trip];try rfl))
 rw[ab hb1] at h;cbv;iterate 2 try(rw[hb1];cbv)
 cases hb2:(lt a6 1)
 rotate_left
 ·rw[ab hb2] at h;cbv;obtain rfl:=Option.some.inj h;exact ARet.mk trivial (by rw[hX];first|rfl|(simp only[Trip.ds,Booking.ds,Leg.ds,Network.ds,Cur.ds,hnil_Trip];try rfl))
 rw[aa hb2] at h;cbv;obtain⟨x2,hx2,h⟩:=af h;try dsimp only at h
 refine ACall.mk _ _ rfl (hF _ _ _ (tK hg ht hx2)) (.inl rfl) (nb rfl) ?_;cbv;obtain⟨x3,hx3,h⟩:=ae h;obtain⟨x3_1,x3_2⟩:=x3;try dsimp only at h
 refine ACall.mk _ _ rfl (hF _ _ _ (p6 hg ht hx3)) (.inl rfl) (nb rfl) ?_;cbv;obtain rfl:=Option.some.inj h;exact ARet.mk ⟨rfl,(au hg ht _)⟩ hX.symm
def ir27:J:=js [jq 1 (.box 0),jq 2 (.mv (.k (.c .un)))] [1] (js [jq 3 (.clo false 53 [1]),jm 2 3] [2] .ret)
def rv27:List RV:=[.t 2]
def lG (g:G) (t:TE) (a0:Network):Fd:=
 (Fd.I_nextOf_1 a0)
theorem tY {g:G} {t:TE} {a0:Network} {r:Fd} (hg:g=G.real) (ht:t=TE.real) (h:lG g t a0=r):Fn Try.prog 27 [.g (Network.rs t a0)] (.c (.r (t.r_Fd r))):=by
 obtain⟨X,hX⟩:=aO (.c (.r (t.r_Fd r)):X);rw[←hX];refine aN (rvs:=rv27) (j:=ir27) Try.func27 rfl (by kernel_rfl) (nb rfl) (by kernel_rfl) ac ?_;intro g2 F hg2 hF;obtain rfl:g2=g:=hg2.unique.trans hg.symm;clear hg2;obtain⟨_⟩:=g2;obtain⟨_,_,_,_,_,_,_,_,_,_,_,_,_,_,r_Fd⟩:=t
 obtain⟨a0_Legs,a0_Off,a0_Change⟩:=a0;unfold lG at h;try dsimp only at h
 cbv;refine AClo.mk (r_Fd (Fd.I_nextOf_1 (Network.mk a0_Legs a0_Off a0_Change))) (i9 ht (Network.mk a0_Legs a0_Off a0_Change)) ?_;cbv;subst h;exact ARet.mk trivial hX.symm
def ir8:J:=js [jq 4 (.box 0),jq 8 (.mv (.k (.c (.n 2)))),jm 9 kf] [1,2,3,4] (.seq (js [jl 12 3 4,jc 13 26 [12],jq 14 (.not 13)] [1,2,3,4,14] (.cond 14 (js [jq 8 (.mv (.k (.c (.n 2)))),jm 9 kf] [8,9] .ret) .skip)) (.seq (.reg (some [[],[],[1],[],[],[],[0,1,2,3,4,5],[0,1,2,3,4,5,6],[0,1,2,3,4,5,6,7],[0,1,2,3,4,5,6,7],[0,1,2,3,4,5,6,7,8],[0,1,2,3,4,5,6,7,8,9,10]]) [jl 16 3 4,jl 17 3 4,jc 18 27 [17],jm 19 1,jm 20 2,jm 21 3,jc 22 20 [16,18,19,20,21],jm 15 22,jq 23 (.ext 0 15),jq 24 (.ext 1 15),jm 10 23,jm 11 24] [10,11]) (js [jm 25 10,jm 26 11,jm 8 25,jm 9 26] [8,9] .ret)))
def rv8:List RV:=[.t 8,.t 9]
def eG (g:G) (t:TE) (a0:Network) (a1:ByteArray) (a2:ByteArray) (a3:Int):Option ((List Trip)×Bool):=
 cl (di g t a0) fun x1=>
 br x1
 (
  lP (lG g t a0) fun x2=>
  cl (gJ g t a0 x2 a1 a2 a3) fun x3=>
  some ((x3.1,x3.2)))
 (
  some (([],false)))
theorem mY {g:G} {t:TE} {a0:Network} {a1:ByteArray} {a2:ByteArray} {a3:Int} {r:(List Trip)×Bool} (hg:g=G.real) (ht:t=TE.real) (h:eG g t a0 a1 a2 a3=some r):Fn Try.prog 8 [.g (Network.rs t a0),.c (.v (.string a1)),.c (.v (.string a2)),.c (.v (.int .i64 a3))] (.u [.c (.o 2 (t.d_Trip r.1)),.c (.r (.v (.bool r.2)))]):=by
 obtain⟨X,hX⟩:=aO (.u [.c (.o 2 (t.d_Trip r.1)),.c (.r (.v (.bool r.2)))]:X);rw[←hX];refine aN (rvs:=rv8) (j:=ir8) Try.func8 rfl (by kernel_rfl) (nb rfl) (by kernel_rfl) ac ?_;intro g2 F hg2 hF;obtain rfl:g2=g:=hg2.unique.trans hg.symm;clear hg2;obtain⟨_⟩:=g2;obtain⟨_,_,_,_,_,_,_,_,_,d_Trip⟩:=t
 obtain⟨a0_Legs,a0_Off,a0_Change⟩:=a0;have hnil_Trip:d_Trip []=[]:=kC ht;unfold eG at h;try dsimp only at h
 cbv;obtain⟨x1,hx1,h⟩:=ae h;try dsimp only at h
 refine ACall.mk _ _ rfl (hF _ _ _ (gT hg ht hx1)) (.inl rfl) (nb rfl) ?_;cbv
 cases hb1:x1
 ·rw[aa hb1] at h;cbv;obtain rfl:=Option.some.inj h;exact ARet.mk trivial (by rw[hX];first|rfl|(simp only[Trip.ds,Booking.ds,Leg.ds,Network.ds,Cur.ds,hnil_Trip];try rfl))
 rw[ab hb1] at h;cbv;obtain⟨x2,hx2,h⟩:=af h;try dsimp only at h
 refine ACall.mk _ _ rfl (hF _ _ _ (tY hg ht hx2)) (.inl rfl) (nb rfl) ?_;cbv;obtain⟨x3,hx3,h⟩:=ae h;obtain⟨x3_1,x3_2⟩:=x3;try dsimp only at h
 refine ACall.mk _ _ rfl (hF _ _ _ (p6 hg ht hx3)) (.inl rfl) (nb rfl) ?_;cbv;obtain rfl:=Option.some.inj h;exact ARet.mk ⟨rfl,(au hg ht _)⟩ hX.symm
def ir9:J:=js [jm 4 kf] [0,1] (.seq (js [jm 6 0,jq 7 (.len false 6),jm 8 1,jq 9 (.len false 8),jb 10 .neq .i 7 9] [0,1,10] (.cond 10 (js [jm 4 kf] [4] .ret) .skip)) (.seq (js [jm 5 (ki 0)] [0,1,5] (.bl 0 (.seq (js [jm 11 5,jm 12 0,jq 13 (.len false 12),jb 14 .lss .i 11 13] [0,1,5,14] (.cond 14 .skip (.exit 0))) (.seq (.block 1 (.seq (.reg (some [[],[],[0,1],[0,1,2],[],[],[4,5],[4,5,6],[0,1,2,3,4,5,6,7]]) [jm 17 0,jm 18 5,ja 19 2 17 18,jl 20 2 19,jm 21 1,jm 22 5,ja 23 2 21 22,jl 24 2 23,jq 25 (.eqs true [.i,.i] 20 24)] [0,1,5,25]) (.cond 25 (js [jm 4 kf] [4] .ret) .skip))) (.reg none [jm 15 5,jb 16 .add .i 15 (ki 1),jm 5 16] [0,1,5]))))) (js [jm 4 kt] [4] .ret)))
def rv9:List RV:=[.t 4]
def dE (g:G) (t:TE) (a1:List Trip):List Trip→Int→Option (LR Bool Unit)
 |[],v1=>
  some (LR.out ())
 |z1::ls1,v1=>
  gt a1 (g.nat v1) fun x1=>
  br (g.all [(g.eq z1.Leg x1.Leg),(g.eq z1.Day x1.Day)])
  (
   dE g t a1 ls1 (g.wrap .i64 (g.add v1 1)))
  (
   some (LR.ret false))
def gO (g:G) (t:TE) (a0:List Trip) (a1:List Trip):Option Bool:=
 br (g.eq (g.llen (t.r_Trip a0)) (g.llen (t.r_Trip a1)))
 (
  cl (dE g t a1 a0 0) fun o1=>lr o1 fun y1=>
  some true)
 (
  some false)
theorem qy {g:G} {t:TE} {a0:List Trip} {a1:List Trip} {r:Bool} (hg:g=G.real) (ht:t=TE.real) (h:gO g t a0 a1=some r):Fn Try.prog 9 [.c (.s 2 (t.r_Trip a0)),.c (.s 2 (t.r_Trip a1))] (.c (.r (.v (.bool r)))):=by
 obtain⟨X,hX⟩:=aO (.c (.r (.v (.bool r))):X);rw[←hX];refine aN (rvs:=rv9) (j:=ir9) Try.func9 rfl (by kernel_rfl) (nb rfl) (by kernel_rfl) ac ?_;intro g2 F hg2 hF;obtain rfl:g2=g:=hg2.unique.trans hg.symm;clear hg2;obtain⟨wrap,lt,_,eq,_,_,_,_,_,_,_,_,_,add,_,_,_,_,_,_,_,llen,_,_,_,_,_,_,_,_,_,_,_,all⟩:=g2;obtain⟨_,_,_,_,_,_,_,_,r_Trip⟩:=t
 unfold gO at h;try dsimp only at h
 cbv
 cases hb1:(eq (llen (r_Trip a0)) (llen (r_Trip a1)))
 ·rw[aa hb1] at h;cbv;obtain rfl:=Option.some.inj h;exact ARet.mk trivial hX.symm
 rw[ab hb1] at h;cbv;obtain⟨o1,ho1,h⟩:=ae h;try dsimp only at h
 try rw[hg] at ho1
 try rw[ht] at ho1
 refine ABL.mk {p:Nat×Int//p.1≤a0.length∧p.2=((p.1:Nat):Int)∧dE G.real TE.real a1 (List.drop p.1 a0) p.2=some o1} (fun⟨⟨k1,v1⟩,_⟩=>({sl:=[(0,.c (.r (.s 2 (r_Trip a0)))),(1,.c (.r (.s 2 (r_Trip a1)))),(5,.c (.r (.v (.int .i64 v1))))],tab:=[]}:St)) 0 (fun p=>a0.length-p.1.1) ⟨(0,0),Nat.zero_le _,rfl,ho1⟩ (Unit) (fun _=>({sl:=[],tab:=[]}:St)) 0 (fun y=>o1=LR.out y) ?_ ?_ ?_
 ·refine Wk.of [] rfl rfl ?_ ?_
  ·cbv;all_goals exact⟨⟨_,rfl,rfl⟩,⟨_,rfl,rfl⟩,⟨_,rfl,rfl⟩,trivial⟩
  cbv;all_goals exact trivial
 ·rintro⟨⟨k1,v1⟩,hk1,hi1,h_1⟩ hq1;have hm1:=(hq1.1 0 _ _ rfl);try dsimp only at hk1 hi1 h_1
  clear hq1;cbv
  by_cases hc1_:k1<a0.length
  ·have hb2:lt v1 (llen (r_Trip a0))=true:=fB hg ht hi1 hc1_;have hs1:=iw hg ht hi1 hc1_ hm1;obtain⟨z1,hz1⟩:=av hc1_;rw[ao hz1] at h_1;rw[dE] at h_1;obtain⟨z1_Leg,z1_Day⟩:=z1;try rw[←hg] at h_1
   try rw[←ht] at h_1
   try dsimp only at h_1
   rw[hb2];cbv;refine AStep.mk (eb hi1) ?_;cbv;refine AGet.mk _ (gI hg ht hi1 hz1) ?_;cbv;refine AStep.mk (eb hi1) ?_;cbv;obtain⟨x1,hx1,h_1⟩:=aQ h_1;obtain⟨x1_Leg,x1_Day⟩:=x1;try dsimp only at h_1
   refine AGet.mk _ (pw hg ht hx1) ?_;cbv
   cases hb3:(all [(eq z1_Leg x1_Leg),(eq z1_Day x1_Day)])
   ·rw[aa hb3] at h_1;cbv;obtain rfl:=Option.some.inj h_1;try dsimp only[lr,lrL,lrp,aH] at h
    obtain rfl:=Option.some.inj h;exact ARet.mk trivial hX.symm
   rw[ab hb3] at h_1;cbv;try rw[hg] at h_1
   try rw[ht] at h_1
   refine⟨⟨(k1+1,(wrap .i64 (add v1 1))),hc1_,hs1,h_1⟩,Wk.of [] rfl rfl ?_ ?_,aB hc1_⟩
   ·cbv;all_goals exact⟨⟨_,rfl,rfl⟩,⟨_,rfl,rfl⟩,⟨_,rfl,rfl⟩,trivial⟩
   cbv;all_goals exact trivial
  have hb2:lt v1 (llen (r_Trip a0))=false:=e9 hg ht hi1 hc1_;rw[List.drop_of_length_le (Nat.le_of_not_lt hc1_)] at h_1;rw[dE] at h_1;try rw[←hg] at h_1
  try rw[←ht] at h_1
  try dsimp only at h_1
  rw[hb2];cbv;refine⟨(),Wk.of [] rfl rfl ?_ ?_,(Option.some.inj h_1).symm⟩
  ·cbv;all_goals exact trivial
  cbv;all_goals exact trivial
 rintro _ hy1;replace hy1:=hy1.symm;subst hy1;try dsimp only[lr,lrL,lrp,aH] at h
 cbv;obtain rfl:=Option.some.inj h;exact ARet.mk trivial hX.symm
def ir3:J:=js [jm 2 kf] [0] (.seq (js [jm 18 0,jc 19 4 [18]] [0,19] (.cond 19 (js [jm 2 kt] [2] .ret) .skip)) (js [jm 21 0,jq 22 (.call 5 false [21]),jm 20 22,jq 23 (.ext 0 20),jq 24 (.ext 1 20),jq 25 (.ext 2 20),jq 26 (.ext 3 20),jq 27 (.ext 4 20),jq 28 (.ext 5 20),jq 29 (.ext 6 20),jq 3 (.alloc [.n 6,.n 1,.r (.v (.int .i64 0))]),jp (.st 3 3 23),jm 4 24,jm 5 25,jm 6 26,jm 7 27,jm 8 28,jm 9 29] [3,6,7,8] (js [jq 30 (.bsl 4 []),jm 10 30] [3,6,7,8,10] (.seq (js [jm 11 (ki 0)] [3,6,7,8,10,11] (.bl 0 (.seq (js [jm 31 11,jf 32 0 3,jk 33 32,jq 34 (.len false 33),jb 35 .lss .i 31 34] [3,6,7,8,10,11,35] (.cond 35 .skip (.exit 0))) (.seq (.block 1 (js [jf 38 0 3,jk 39 38,jm 40 11,ja 41 6 39 40,jf 42 5 41,jk 43 42,jb 44 .lss .i 43 (ki 1)] [3,6,7,8,10,11,44] (.cond 44 (js [jm 2 kt] [2] .ret) .skip))) (.reg none [jm 36 11,jb 37 .add .i 36 (ki 1),jm 11 37] [3,6,7,8,10,11]))))) (js [jl 46 3 3,jm 47 10,jm 48 6,jm 49 7,jm 50 8,jq 51 (.call 6 false [46,47,(.k (.c (.n 2))),48,49,50,(ki 1)]),jm 45 51,jq 52 (.ext 0 45),jq 53 (.ext 1 45),jm 12 52,jm 13 53] [3,6,7,8,10,12,13] (.seq (js [jl 55 3 3,jm 56 10,jm 57 6,jm 58 7,jm 59 8,jq 60 (.call 7 false [55,56,(.k (.c (.n 2))),57,58,59,(ki 1)]),jm 54 60,jq 61 (.ext 0 54),jq 62 (.ext 1 54),jm 14 61,jm 15 62] [3,6,7,8,12,13,15] (js [jm 63 13,jm 64 15,jb 65 .neq .b 63 64] [3,6,7,8,12,13,65] (.cond 65 (js [jm 2 kf] [2] .ret) .skip))) (js [jl 67 3 3,jm 68 6,jm 69 7,jm 70 8,jq 71 (.call 8 false [67,68,69,70]),jm 66 71,jq 72 (.ext 0 66),jq 73 (.ext 1 66),jm 16 72,jm 17 73] [12,13,16,17] (js [jm 74 13,jm 75 17,jb 76 .eql .b 74 75,jm 77 76,ju 78 77 (.mv 12),ju 79 77 (.mv 16),ju 80 77 (.call 9 true [78,79]),jq 81 (.pick 77 80 kf),jm 2 81] [2] .ret))))))))
def rv3:List RV:=[.t 2]
def bc (g:G) (t:TE):List Leg→LR Bool Unit
 |[]=>
  (LR.out ())
 |z1::ls1=>
  br (g.lt z1.Room 1)
  (
   (LR.ret true))
  (
   bc g t ls1)
def fK (g:G) (t:TE) (a0:List Int):Option Bool:=
 lP (p5 g t a0) fun x1=>
 br x1
 (
  some true)
 (
  cl (dD g t a0) fun x2=>
  lP ([]) fun(l1:List Booking)=>
  lP (bc g t x2.1.Legs) fun o1=>lr o1 fun y1=>
  cl (dI g t (Network.mk x2.1.Legs x2.1.Off x2.1.Change) l1 [] x2.2.2.2.1 x2.2.2.2.2.1 x2.2.2.2.2.2.1 1) fun x3=>
  cl (en g t (Network.mk x2.1.Legs x2.1.Off x2.1.Change) l1 [] x2.2.2.2.1 x2.2.2.2.2.1 x2.2.2.2.2.2.1 1) fun x4=>
  br x3.2
  (
   br x4.2
   (
    cl (eG g t (Network.mk x2.1.Legs x2.1.Off x2.1.Change) x2.2.2.2.1 x2.2.2.2.2.1 x2.2.2.2.2.2.1) fun x5=>
    br x5.2
    (
     cl (gO g t x3.1 x5.1) fun x6=>
     some x6)
    (
     some false))
   (
    some false))
  (
   br x4.2
   (
    some false)
   (
    cl (eG g t (Network.mk x2.1.Legs x2.1.Off x2.1.Change) x2.2.2.2.1 x2.2.2.2.2.1 x2.2.2.2.2.2.1) fun x7=>
    br x7.2
    (
     some false)
    (
     cl (gO g t x3.1 x7.1) fun x8=>
     some x8))))
theorem pG {g:G} {t:TE} {a0:List Int} {r:Bool} (hg:g=G.real) (ht:t=TE.real) (h:fK g t a0=some r):Fn Try.prog 3 [.c (.s 1 (t.r_U8 a0))] (.c (.r (.v (.bool r)))):=by
 obtain⟨X,hX⟩:=aO (.c (.r (.v (.bool r))):X);rw[←hX];refine aN (rvs:=rv3) (j:=ir3) Try.func3 rfl (by kernel_rfl) (nb rfl) (by kernel_rfl) ac ?_;intro g2 F hg2 hF;obtain rfl:g2=g:=hg2.unique.trans hg.symm;clear hg2;obtain⟨wrap,lt,_,_,_,_,_,_,_,_,_,_,_,add,_,_,_,_,_,_,_,llen,_,_,dlen,_,_,_,rd,rda⟩:=g2;obtain⟨_,_,r_Booking,d_Booking,r_Leg,d_Leg,r_I64,d_I64,r_Trip,d_Trip⟩:=t
 have hrda_Booking:∀l,rda (d_Booking l)=r_Booking l:=nn hg ht;have hrda_Leg:∀l,rda (d_Leg l)=r_Leg l:=uG hg ht;have hrda_I64:∀l,rda (d_I64 l)=r_I64 l:=rC hg ht;have hrnil_Trip:r_Trip []=[]:=tP ht;have hfr_Trip:∀l,bQ (d_Trip l)=true:=oP ht;have hrda_Trip:∀l,rda (d_Trip l)=r_Trip l:=tk hg ht;unfold fK at h;try dsimp only at h
 cbv;obtain⟨x1,hx1,h⟩:=af h;try dsimp only at h
 refine ACall.mk _ _ rfl (hF _ _ _ (zh hg ht hx1)) (.inl rfl) (nb rfl) ?_;cbv
 cases hb1:x1
 rotate_left
 ·rw[ab hb1] at h;cbv;obtain rfl:=Option.some.inj h;exact ARet.mk trivial hX.symm
 rw[aa hb1] at h;cbv;obtain⟨x2,hx2,h⟩:=ae h;obtain⟨⟨x2_1_Legs,x2_1_Off,x2_1_Change⟩,x2_2_1,x2_2_2_1,x2_2_2_2_1,x2_2_2_2_2_1,x2_2_2_2_2_2_1,x2_2_2_2_2_2_2⟩:=x2;try dsimp only at h
 refine ACallR.mk _ _ (.u [.g [.r (.s 6 (r_Leg x2_1_Legs)),.r (.s 1 (r_I64 x2_1_Off)),.r (.v (.int .i64 x2_1_Change))],.c (.r (.s 4 (r_Booking x2_2_1))),.c (.r (.s 2 (r_Trip x2_2_2_1))),.c (.r (.v (.string x2_2_2_2_1))),.c (.r (.v (.string x2_2_2_2_2_1))),.c (.r (.v (.int .i64 x2_2_2_2_2_2_1))),.c (.r (.v (.int .i64 x2_2_2_2_2_2_2)))]) rfl (hF _ _ _ (mF hg ht hx2)) (.inl rfl) (nb rfl) (by cbv;(try simp only[hrda_Booking,hrda_I64,hrda_Leg,hrda_Trip])) ?_;cbv;obtain⟨l1,hl1,h⟩:=af h;try dsimp only at h
 refine ANew.mk (d_Booking l1) (dlen (d_Booking l1)) (by rw[←hl1];exact fM hg ht []) (by rw[←hl1];exact eO hg ht []) ?_;cbv;obtain⟨o1,ho1,h⟩:=af h;try dsimp only at h
 try rw[hg] at ho1
 try rw[ht] at ho1
 refine ABL.mk {p:Nat×Int//p.1≤x2_1_Legs.length∧p.2=((p.1:Nat):Int)∧bc G.real TE.real (List.drop p.1 x2_1_Legs)=o1} (fun⟨⟨k1,v1⟩,_⟩=>({sl:=[(3,.c (.p 0 3 0 0)),(6,.c (.r (.v (.string x2_2_2_2_1)))),(7,.c (.r (.v (.string x2_2_2_2_2_1)))),(8,.c (.r (.v (.int .i64 x2_2_2_2_2_2_1)))),(10,.c (.f 1 4 0 (dlen (d_Booking l1)))),(11,.c (.r (.v (.int .i64 v1))))],tab:=[(0,some (.foc 3 [] [.r (.s 6 (r_Leg x2_1_Legs)),.r (.s 1 (r_I64 x2_1_Off)),.r (.v (.int .i64 x2_1_Change))] [])),(1,some (.arr 4 (d_Booking l1)))]}:St)) 2 (fun p=>x2_1_Legs.length-p.1.1) ⟨(0,0),Nat.zero_le _,rfl,ho1⟩ (Unit) (fun _=>({sl:=[(3,.c (.p 0 3 0 0)),(6,.c (.r (.v (.string x2_2_2_2_1)))),(7,.c (.r (.v (.string x2_2_2_2_2_1)))),(8,.c (.r (.v (.int .i64 x2_2_2_2_2_2_1)))),(10,.c (.f 1 4 0 (dlen (d_Booking l1))))],tab:=[(0,some (.foc 3 [] [.r (.s 6 (r_Leg x2_1_Legs)),.r (.s 1 (r_I64 x2_1_Off)),.r (.v (.int .i64 x2_1_Change))] [])),(1,some (.arr 4 (d_Booking l1)))]}:St)) 2 (fun y=>o1=LR.out y) ?_ ?_ ?_
 ·refine Wk.of [(0,some 208),(1,some 336)] rfl rfl ?_ ?_
  ·cbv;all_goals exact⟨⟨_,rfl,rfl⟩,⟨_,rfl,rfl⟩,⟨_,rfl,rfl⟩,⟨_,rfl,rfl⟩,⟨_,rfl,rfl⟩,⟨_,rfl,rfl⟩,trivial⟩
  cbv;all_goals exact⟨⟨_,rfl,_,rfl,rfl,rfl,rfl,trivial⟩,⟨_,rfl,rfl⟩,trivial⟩
 ·rintro⟨⟨k1,v1⟩,hk1,hi1,h_1⟩ hq1;have hm1:=(hq1.2.2.1 0 _ _ _ _ 0 _ _ rfl rfl);try dsimp only at hk1 hi1 h_1
  clear hq1;cbv
  by_cases hc1_:k1<x2_1_Legs.length
  ·have hb2:lt v1 (llen (r_Leg x2_1_Legs))=true:=cC hg ht hi1 hc1_;have hs1:=eI hg ht hi1 hc1_ hm1;obtain⟨z1,hz1⟩:=av hc1_;rw[ao hz1] at h_1;rw[bc] at h_1;obtain⟨z1_From,z1_To,z1_Start,z1_Takes,z1_Days,z1_Room⟩:=z1;try rw[←hg] at h_1
   try rw[←ht] at h_1
   try dsimp only at h_1
   rw[hb2];cbv;refine AStep.mk (eb hi1) ?_;cbv;refine AGet.mk _ (cS hg ht hi1 hz1) ?_;cbv
   cases hb3:(lt z1_Room 1)
   rotate_left
   ·rw[ab hb3] at h_1;cbv;subst h_1;try dsimp only[lr,lrL,lrp,aH] at h
    obtain rfl:=Option.some.inj h;exact ARet.mk trivial hX.symm
   rw[aa hb3] at h_1;cbv;try rw[hg] at h_1
   try rw[ht] at h_1
   refine⟨⟨(k1+1,(wrap .i64 (add v1 1))),hc1_,hs1,h_1⟩,Wk.of [(0,some 0),(1,some 1)] rfl rfl ?_ ?_,aB hc1_⟩
   ·cbv;all_goals exact⟨⟨_,rfl,rfl⟩,⟨_,rfl,rfl⟩,⟨_,rfl,rfl⟩,⟨_,rfl,rfl⟩,⟨_,rfl,rfl⟩,⟨_,rfl,rfl⟩,trivial⟩
   cbv;all_goals exact⟨⟨_,rfl,_,rfl,rfl,rfl,rfl,trivial⟩,⟨_,rfl,rfl⟩,trivial⟩
  have hb2:lt v1 (llen (r_Leg x2_1_Legs))=false:=cf hg ht hi1 hc1_;rw[List.drop_of_length_le (Nat.le_of_not_lt hc1_)] at h_1;rw[bc] at h_1;try rw[←hg] at h_1
  try rw[←ht] at h_1
  try dsimp only at h_1
  rw[hb2];cbv;refine⟨(),Wk.of [(0,some 0),(1,some 1)] rfl rfl ?_ ?_,h_1.symm⟩
  ·cbv;all_goals exact⟨⟨_,rfl,rfl⟩,⟨_,rfl,rfl⟩,⟨_,rfl,rfl⟩,⟨_,rfl,rfl⟩,⟨_,rfl,rfl⟩,trivial⟩
  cbv;all_goals exact⟨⟨_,rfl,_,rfl,rfl,rfl,rfl,trivial⟩,⟨_,rfl,rfl⟩,trivial⟩
 rintro _ hy1;replace hy1:=hy1.symm;subst hy1;try dsimp only[lr,lrL,lrp,aH] at h
 cbv;refine AStep.mk (dU ht (ai hg ht _)) ?_;cbv;obtain⟨x3,hx3,h⟩:=ae h;obtain⟨x3_1,x3_2⟩:=x3;try dsimp only at h
 refine ACallR.mk _ _ (.u [.c (.r (.s 2 (r_Trip x3_1))),.c (.r (.v (.bool x3_2)))]) (by rw[show rd (d_Booking l1) 0 (dlen (d_Booking l1))=r_Booking l1 from eF hg ht (ai hg ht _),←hrnil_Trip];try rfl) (hF _ _ _ (rk hg ht hx3)) (.inr (by simp only[Go.Vs.X.fresh,Go.Vs.X.freshs,dQ,bB,Bool.and_self,hfr_Trip])) (nb rfl) (by cbv;(try simp only[hrda_Trip])) ?_
 cbv;refine AStep.mk (dU ht (ai hg ht _)) ?_;cbv;obtain⟨x4,hx4,h⟩:=ae h;obtain⟨x4_1,x4_2⟩:=x4;try dsimp only at h
 refine ACallR.mk _ _ (.u [.c (.r (.s 2 (r_Trip x4_1))),.c (.r (.v (.bool x4_2)))]) (by rw[show rd (d_Booking l1) 0 (dlen (d_Booking l1))=r_Booking l1 from eF hg ht (ai hg ht _),←hrnil_Trip];try rfl) (hF _ _ _ (lB hg ht hx4)) (.inr (by simp only[Go.Vs.X.fresh,Go.Vs.X.freshs,dQ,bB,Bool.and_self,hfr_Trip])) (nb rfl) (by cbv;(try simp only[hrda_Trip])) ?_
 cbv;have hb4:x3_2=true∨x3_2=false:=by cases x3_2<;>simp
 rcases hb4 with hb4|hb4
 ·rw[ab hb4] at h;have hK_:=h;subst hb4;have h:=hK_;clear hK_;cbv;have hb5:x4_2=true∨x4_2=false:=by cases x4_2<;>simp
  rcases hb5 with hb5|hb5
  ·rw[ab hb5] at h;have hK_:=h;subst hb5;have h:=hK_;clear hK_;cbv;obtain⟨x5,hx5,h⟩:=ae h;obtain⟨x5_1,x5_2⟩:=x5;try dsimp only at h
   refine ACallR.mk _ _ (.u [.c (.r (.s 2 (r_Trip x5_1))),.c (.r (.v (.bool x5_2)))]) rfl (hF _ _ _ (mY hg ht hx5)) (.inl rfl) (nb rfl) (by cbv;(try simp only[hrda_Trip])) ?_;cbv;try(rw[hb4];cbv)
   have hb6:x5_2=true∨x5_2=false:=by cases x5_2<;>simp
   rcases hb6 with hb6|hb6
   ·rw[ab hb6] at h;have hK_:=h;subst hb6;have h:=hK_;clear hK_;cbv;obtain⟨x6,hx6,h⟩:=ae h;try dsimp only at h
    refine ACall.mk _ _ rfl (hF _ _ _ (qy hg ht hx6)) (.inl rfl) (nb rfl) ?_;cbv;obtain rfl:=Option.some.inj h;exact ARet.mk trivial hX.symm
   rw[aa hb6] at h;have hK_:=h;subst hb6;have h:=hK_;clear hK_;cbv;obtain rfl:=Option.some.inj h;exact ARet.mk trivial hX.symm
  rw[aa hb5] at h;have hK_:=h;subst hb5;have h:=hK_;clear hK_;cbv;obtain rfl:=Option.some.inj h;exact ARet.mk trivial hX.symm
 rw[aa hb4] at h;have hK_:=h;subst hb4;have h:=hK_;clear hK_;cbv;have hb7:x4_2=true∨x4_2=false:=by cases x4_2<;>simp
 rcases hb7 with hb7|hb7
 ·rw[ab hb7] at h;have hK_:=h;subst hb7;have h:=hK_;clear hK_;cbv;obtain rfl:=Option.some.inj h;exact ARet.mk trivial hX.symm
 rw[aa hb7] at h;have hK_:=h;subst hb7;have h:=hK_;clear hK_;cbv;obtain⟨x7,hx7,h⟩:=ae h;obtain⟨x7_1,x7_2⟩:=x7;try dsimp only at h
 refine ACallR.mk _ _ (.u [.c (.r (.s 2 (r_Trip x7_1))),.c (.r (.v (.bool x7_2)))]) rfl (hF _ _ _ (mY hg ht hx7)) (.inl rfl) (nb rfl) (by cbv;(try simp only[hrda_Trip])) ?_;cbv;try(rw[hb4];cbv)
 have hb8:x7_2=true∨x7_2=false:=by cases x7_2<;>simp
 rcases hb8 with hb8|hb8
 ·rw[ab hb8] at h;have hK_:=h;subst hb8;have h:=hK_;clear hK_;cbv;obtain rfl:=Option.some.inj h;exact ARet.mk trivial hX.symm
 rw[aa hb8] at h;have hK_:=h;subst hb8;have h:=hK_;clear hK_;cbv;obtain⟨x8,hx8,h⟩:=ae h;try dsimp only at h
 refine ACall.mk _ _ rfl (hF _ _ _ (qy hg ht hx8)) (.inl rfl) (nb rfl) ?_;cbv;obtain rfl:=Option.some.inj h;exact ARet.mk trivial hX.symm
end Go.Vs
