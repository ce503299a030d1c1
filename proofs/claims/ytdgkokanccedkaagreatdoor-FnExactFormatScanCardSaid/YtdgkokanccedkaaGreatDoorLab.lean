/- Part of the proofs of this seat's laws: Lab. No condition. -/
import Derived.Test.YtdgkokanccedkaaGreatDoorTy
import Derived.Test.YtdgkokanccedkaaGreatDoorTIRall
import Derived.Test.YtdgkokanccedkaaGreatDoorLaa
set_option linter.unusedVariables false
set_option linter.unusedSimpArgs false
set_option linter.unusedSectionVars false
namespace Go.Vs
set_option maxRecDepth 100000
def ir41:J:=js [jm 6 kf] [0,1,2] (js [jm 7 0,jm 8 1,jb 9 .geq .i 7 8,jm 10 9,ju 11 10 (.mv 0),ju 12 10 (.mv 2),ju 13 10 (.bin .leq .i 11 12),jq 14 (.pick 10 13 kf),jm 6 14] [6] .ret)
def rv41:List RV:=[.t 6]
open Go.Proofs Go.IntWalk
set_option linter.unusedVariables false
set_option maxHeartbeats 4000000
def cE (g:G) (t:TE) (a0:Int) (a1:Int) (a2:Int):Bool:=
 br (g.le a1 a0)
 (
  (g.le a0 a2))
 (
  false)
theorem ce {g:G} {t:TE} {a0:Int} {a1:Int} {a2:Int} {r:Bool} (hg:g=G.real) (ht:t=TE.real) (h:cE g t a0 a1 a2=r):Fn Tryz.prog 41 [.c (.v (.int .i64 a0)),.c (.v (.int .i64 a1)),.c (.v (.int .i64 a2))] (.c (.r (.v (.bool r)))):=by
 obtain⟨X,hX⟩:=bg (.c (.r (.v (.bool r))):X);rw[←hX];refine aD (rvs:=rv41) (j:=ir41) Tryz.func41 rfl (by kernel_rfl) (nb rfl) (by kernel_rfl) ae ?_;intro g2 F hg2 hF;obtain rfl:g2=g:=hg2.unique.trans hg.symm;clear hg2;obtain⟨_,_,le⟩:=g2;obtain⟨_⟩:=t;unfold cE at h;try dsimp only at h
 cbv
 cases hb1:(le a1 a0)
 rotate_left
 ·rw[ab hb1] at h;cbv;iterate 3 try(rw[hb1];cbv)
  subst h;exact ARet.mk trivial hX.symm
 rw[aa hb1] at h;cbv;iterate 3 try(rw[hb1];cbv)
 subst h;exact ARet.mk trivial hX.symm
def ir98:J:=js [jm 2 kf] [0] (.seq (js [jm 4 0,jq 5 (.len true 4),jb 6 .neq .i 5 (ki 3)] [0,6] (.cond 6 (js [jm 2 kf] [2] .ret) .skip)) (.seq (js [jm 3 (ki 0)] [0,3] (.bl 0 (.seq (js [jm 7 3,jb 8 .lss .i 7 (ki 3)] [0,3,8] (.cond 8 .skip (.exit 0))) (.seq (.block 1 (js [jm 11 0,jm 12 3,jq 13 (.idx 11 12),jq 14 (.cvt .i64 13),jc 15 41 [14,(ki 65),(ki 90)],jq 16 (.not 15)] [0,3,16] (.cond 16 (js [jm 2 kf] [2] .ret) .skip))) (.reg none [jm 9 3,jb 10 .add .i 9 (ki 1),jm 3 10] [0,3]))))) (js [jm 2 kt] [2] .ret)))
def rv98:List RV:=[.t 2]
def bx (g:G) (t:TE) (a0:ByteArray):Nat→Int→Option (LR Bool Unit)
 |0,v1=>
  some (LR.out ())
 |n1+1,v1=>
  gd (((0:Int)≤v1∧v1<(((a0.size):Nat):Int)))<|
  lP (cE g t (g.wrap .i64 (g.byte a0 v1)) 65 90) fun x1=>
  br x1
  (
   bx g t a0 n1 (g.wrap .i64 (g.add v1 1)))
  (
   some (LR.ret false))
def dX (g:G) (t:TE) (a0:ByteArray):Option Bool:=
 br (g.eq (g.int (g.slen a0)) 3)
 (
  cl (bx g t a0 (a9 0 3) 0) fun o1=>lr o1 fun y1=>
  some true)
 (
  some false)
theorem jd {g:G} {t:TE} {a0:ByteArray} {r:Bool} (hg:g=G.real) (ht:t=TE.real) (h:dX g t a0=some r):Fn Tryz.prog 98 [.c (.v (.string a0))] (.c (.r (.v (.bool r)))):=by
 obtain⟨X,hX⟩:=bg (.c (.r (.v (.bool r))):X);rw[←hX];refine aD (rvs:=rv98) (j:=ir98) Tryz.func98 rfl (by kernel_rfl) (nb rfl) (by kernel_rfl) ae ?_;intro g2 F hg2 hF;obtain rfl:g2=g:=hg2.unique.trans hg.symm;clear hg2;obtain⟨wrap,lt,_,eq,_,_,_,_,_,_,_,_,int,add,_,_,_,_,_,_,_,_,_,_,_,_,_,_,_,_,_,_,_,_,_,slen⟩:=g2;obtain⟨_⟩:=t;unfold dX at h;try dsimp only at h
 cbv
 cases hb1:(eq (int (slen a0)) 3)
 ·rw[aa hb1] at h;cbv;obtain rfl:=Option.some.inj h;exact ARet.mk trivial hX.symm
 rw[ab hb1] at h;cbv;obtain⟨o1,ho1,h⟩:=ai h;try dsimp only at h
 try rw[hg] at ho1
 try rw[ht] at ho1
 refine ABL.mk {p:Nat×Int//p.1=a9 p.2 3∧0≤p.2∧bx G.real TE.real a0 p.1 p.2=some o1} (fun⟨⟨n1,v1⟩,_⟩=>({sl:=[(0,.c (.r (.v (.string a0)))),(3,.c (.r (.v (.int .i64 v1))))],tab:=[]}:St)) 0 (fun p=>p.1.1) ⟨(a9 0 3,0),rfl,Int.le_refl _,ho1⟩ (Unit) (fun _=>({sl:=[],tab:=[]}:St)) 0 (fun y=>o1=LR.out y) ?_ ?_ ?_
 ·refine Wk.of [] rfl rfl ?_ ?_
  ·cbv;all_goals exact⟨⟨_,rfl,rfl⟩,⟨_,rfl,rfl⟩,trivial⟩
  cbv;all_goals exact trivial
 ·rintro⟨⟨n1,v1⟩,hn1,hi1,h_1⟩ hq1;try dsimp only at hn1 hi1 h_1
  clear hq1;cbv;rcases n1 with _|n1
  ·have hb2:lt v1 3=false:=dT hg hn1;rw[bx] at h_1;try rw[←hg] at h_1
   try rw[←ht] at h_1
   try dsimp only at h_1
   rw[hb2];cbv;refine⟨(),Wk.of [] rfl rfl ?_ ?_,(Option.some.inj h_1).symm⟩
   ·cbv;all_goals exact trivial
   cbv;all_goals exact trivial
  have hb2:lt v1 3=true:=eG hg hn1;have hl1:=iI hn1;have hs1:=gg hg hn1 hi1 (by decide) (by decide);rw[bx] at h_1;try rw[←hg] at h_1
  try rw[←ht] at h_1
  try dsimp only at h_1
  rw[hb2];cbv;obtain⟨hc1,h_1⟩:=ah h_1;refine AStep.mk hc1 ?_;cbv;obtain⟨x1,hx1,h_1⟩:=am h_1;try dsimp only at h_1
  refine ACall.mk _ _ rfl (hF _ _ _ (ce hg ht hx1)) (.inl rfl) (nb rfl) ?_;cbv
  cases hb3:x1
  ·rw[aa hb3] at h_1;cbv;obtain rfl:=Option.some.inj h_1;try dsimp only[lr,lrL,lrp,bQ] at h
   obtain rfl:=Option.some.inj h;exact ARet.mk trivial hX.symm
  rw[ab hb3] at h_1;cbv;try rw[hg] at h_1
  try rw[ht] at h_1
  refine⟨⟨(n1,(wrap .i64 (add v1 1))),hs1.1,hs1.2,h_1⟩,Wk.of [] rfl rfl ?_ ?_,Nat.lt_succ_self _⟩
  ·cbv;all_goals exact⟨⟨_,rfl,rfl⟩,⟨_,rfl,rfl⟩,trivial⟩
  cbv;all_goals exact trivial
 rintro _ hy1;replace hy1:=hy1.symm;subst hy1;try dsimp only[lr,lrL,lrp,bQ] at h
 cbv;obtain rfl:=Option.some.inj h;exact ARet.mk trivial hX.symm
def ir72:J:=js [jq 1 (.box 0),jm 2 kf] [1] (js [jf 3 0 1,jk 4 3,jc 5 98 [4],jm 6 5,ju 7 6 (.fa 1 1),ju 8 6 (.ld false 1 7),ju 9 6 (.call 98 true [8]),jq 10 (.pick 6 9 kf),jm 11 10,ju 12 11 (.fa 0 1),ju 13 11 (.ld false 1 12),ju 14 11 (.fa 1 1),ju 15 11 (.ld false 1 14),ju 16 11 (.bin .neq .s 13 15),jq 17 (.pick 11 16 kf),jm 18 17,ju 19 18 (.fa 2 1),ju 20 18 (.ld false 1 19),ju 21 18 (.call 41 true [20,(ki 0),(ki 1439)]),jq 22 (.pick 18 21 kf),jm 23 22,ju 24 23 (.fa 3 1),ju 25 23 (.ld false 1 24),ju 26 23 (.call 41 true [25,(ki 1),(ki 4320)]),jq 27 (.pick 23 26 kf),jm 28 27,ju 29 28 (.fa 4 1),ju 30 28 (.ld false 1 29),ju 31 28 (.call 41 true [30,(ki 1),(ki 127)]),jq 32 (.pick 28 31 kf),jm 33 32,ju 34 33 (.fa 5 1),ju 35 33 (.ld false 1 34),ju 36 33 (.call 41 true [35,(ki 0),(ki 1000000)]),jq 37 (.pick 33 36 kf),jm 2 37] [2] .ret)
def rv72:List RV:=[.t 2]
def hR (g:G) (t:TE) (a0:Leg):Option Bool:=
 cl (dX g t a0.From) fun x1=>
 br x1
 (
  cl (dX g t a0.To) fun x2=>
  br x2
  (
   br (g.seq a0.From a0.To)
   (
    some false)
   (
    lP (cE g t a0.Start 0 1439) fun x3=>
    br x3
    (
     lP (cE g t a0.Takes 1 4320) fun x4=>
     br x4
     (
      lP (cE g t a0.Days 1 127) fun x5=>
      br x5
      (
       lP (cE g t a0.Room 0 1000000) fun x6=>
       some x6)
      (
       some false))
     (
      some false))
    (
     some false)))
  (
   some false))
 (
  some false)
theorem rK {g:G} {t:TE} {a0:Leg} {r:Bool} (hg:g=G.real) (ht:t=TE.real) (h:hR g t a0=some r):Fn Tryz.prog 72 [.g (Leg.rs t a0)] (.c (.r (.v (.bool r)))):=by
 obtain⟨X,hX⟩:=bg (.c (.r (.v (.bool r))):X);rw[←hX];refine aD (rvs:=rv72) (j:=ir72) Tryz.func72 rfl (by kernel_rfl) (nb rfl) (by kernel_rfl) ae ?_;intro g2 F hg2 hF;obtain rfl:g2=g:=hg2.unique.trans hg.symm;clear hg2;obtain⟨_,_,_,_,_,_,_,_,_,_,_,_,_,_,_,_,_,seq⟩:=g2;obtain⟨_⟩:=t;obtain⟨a0_From,a0_To,a0_Start,a0_Takes,a0_Days,a0_Room⟩:=a0
 unfold hR at h;try dsimp only at h
 cbv;obtain⟨x1,hx1,h⟩:=ai h;try dsimp only at h
 refine ACall.mk _ _ rfl (hF _ _ _ (jd hg ht hx1)) (.inl rfl) (nb rfl) ?_;cbv
 cases hb1:x1
 ·rw[aa hb1] at h;cbv;iterate 3 try(rw[hb1];cbv)
  obtain rfl:=Option.some.inj h;exact ARet.mk trivial hX.symm
 rw[ab hb1] at h;cbv;iterate 2 try(rw[hb1];cbv)
 obtain⟨x2,hx2,h⟩:=ai h;try dsimp only at h
 refine ACall.mk _ _ rfl (hF _ _ _ (jd hg ht hx2)) (.inl rfl) (nb rfl) ?_;cbv;try(rw[hb1];cbv)
 cases hb2:x2
 ·rw[aa hb2] at h;cbv;iterate 5 try(rw[hb2];cbv)
  obtain rfl:=Option.some.inj h;exact ARet.mk trivial hX.symm
 rw[ab hb2] at h;cbv;iterate 5 try(rw[hb2];cbv)
 cases hb3:(seq a0_From a0_To)
 rotate_left
 ·rw[ab hb3] at h;cbv;iterate 3 try(rw[hb3];cbv)
  obtain rfl:=Option.some.inj h;exact ARet.mk trivial hX.symm
 rw[aa hb3] at h;cbv;iterate 2 try(rw[hb3];cbv)
 obtain⟨x3,hx3,h⟩:=am h;try dsimp only at h
 refine ACall.mk _ _ rfl (hF _ _ _ (ce hg ht hx3)) (.inl rfl) (nb rfl) ?_;cbv;try(rw[hb3];cbv)
 cases hb4:x3
 ·rw[aa hb4] at h;cbv;iterate 3 try(rw[hb4];cbv)
  obtain rfl:=Option.some.inj h;exact ARet.mk trivial hX.symm
 rw[ab hb4] at h;cbv;iterate 2 try(rw[hb4];cbv)
 obtain⟨x4,hx4,h⟩:=am h;try dsimp only at h
 refine ACall.mk _ _ rfl (hF _ _ _ (ce hg ht hx4)) (.inl rfl) (nb rfl) ?_;cbv;try(rw[hb4];cbv)
 cases hb5:x4
 ·rw[aa hb5] at h;cbv;iterate 3 try(rw[hb5];cbv)
  obtain rfl:=Option.some.inj h;exact ARet.mk trivial hX.symm
 rw[ab hb5] at h;cbv;iterate 2 try(rw[hb5];cbv)
 obtain⟨x5,hx5,h⟩:=am h;try dsimp only at h
 refine ACall.mk _ _ rfl (hF _ _ _ (ce hg ht hx5)) (.inl rfl) (nb rfl) ?_;cbv;try(rw[hb5];cbv)
 cases hb6:x5
 ·rw[aa hb6] at h;cbv;iterate 3 try(rw[hb6];cbv)
  obtain rfl:=Option.some.inj h;exact ARet.mk trivial hX.symm
 rw[ab hb6] at h;cbv;iterate 2 try(rw[hb6];cbv)
 obtain⟨x6,hx6,h⟩:=am h;try dsimp only at h
 refine ACall.mk _ _ rfl (hF _ _ _ (ce hg ht hx6)) (.inl rfl) (nb rfl) ?_;cbv;try(rw[hb6];cbv)
 obtain rfl:=Option.some.inj h;exact ARet.mk trivial hX.symm
def ir40:J:=js [jq 1 (.box 0),jm 2 kf] [1] (.seq (js [jm 3 (ki 0)] [1,3] (.bl 0 (.seq (js [jm 5 3,jf 6 0 1,jk 7 6,jq 8 (.len false 7),jb 9 .lss .i 5 8] [1,3,9] (.cond 9 .skip (.exit 0))) (.seq (.block 1 (js [jf 12 0 1,jk 13 12,jm 14 3,ja 15 6 13 14,jl 16 6 15,jc 17 72 [16],jq 18 (.not 17)] [1,3,18] (.cond 18 (js [jm 2 kf] [2] .ret) .skip))) (.reg none [jm 10 3,jb 11 .add .i 10 (ki 1),jm 3 11] [1,3]))))) (.seq (js [jm 4 (ki 0)] [1,4] (.bl 2 (.seq (js [jm 19 4,jf 20 1 1,jk 21 20,jq 22 (.len false 21),jb 23 .lss .i 19 22] [1,4,23] (.cond 23 .skip (.exit 2))) (.seq (.block 3 (.seq (.reg (some [[],[0],[],[0,1,2],[0,1,2,3],[0,1,2,3,4],[0,1,2,3,4,5],[0,1,2,3,4,5,6],[0,1,2,3,4,5,6,7],[0,1,2,3,4,5,6,7,8],[0,1,2,3,4,5,6,7,8,9],[0,1,2,3,4,5,6,7,8,9,10],[0,1,2,3,4,5,6,7,8,9,10,11],[0,1,2,3,4,5,6,7,8,9,10],[0,1,2,3,4,5,6,7,8,9,10,13],[0,1,2,3,4,5,6,7,8,9,10,11,12,13,14],[0,1,2,3,4,5,6,7,8,9,10,11,12,13,14,15],[0,1,2,3,4,5,6,7,8,9,10],[0,1,2,3,4,5,6,7,8,9,10,17],[0,1,2,3,4,5,6,7,8,9,10],[0,1,2,3,4,5,6,7,8,9,10,17,18,19],[0,1,2,3,4,5,6,7,8,9,10,17,18,19,20],[0,1,2,3,4,5,6,7,8,9,10,11,12,13,14,15,16,17,18,19,20,21],[0,1,2,3,4,5,6,7,8,9,10,11,12,13,14,15,16,17,18,19,20,21,22],[0,1,2,3,4,5,6,7,8,9,10,11,12,13,14,15,16,17,18,19,20,21,22,23]]) [jf 26 1 1,jk 27 26,jm 28 4,ja 29 1 27 28,jk 30 29,jc 31 41 [30,(ki 0),(ki 60)],jq 32 (.not 31),jm 33 32,jv 34 33 (.mv 4),jv 35 33 (.bin .gtr .i 34 (ki 0)),jv 36 33 (.mv 35),ju 37 36 (.fa 1 1),ju 38 36 (.ld false 1 37),ju 39 36 (.mv 4),ju 40 36 (.bin .sub .i 39 (ki 1)),ju 41 36 (.ia 1 38 40),ju 42 36 (.ld false 1 41),ju 43 36 (.fa 1 1),ju 44 36 (.ld false 1 43),ju 45 36 (.mv 4),ju 46 36 (.ia 1 44 45),ju 47 36 (.ld false 1 46),ju 48 36 (.bin .geq .i 42 47),jv 49 33 (.pick 36 48 kf),jq 50 (.pick 33 kt 49)] [1,4,50]) (.cond 50 (js [jm 2 kf] [2] .ret) .skip))) (.reg none [jm 24 4,jb 25 .add .i 24 (ki 1),jm 4 25] [1,4]))))) (js [jf 51 0 1,jk 52 51,jq 53 (.len false 52),jb 54 .leq .i 53 (ki 20),jm 55 54,ju 56 55 (.fa 1 1),ju 57 55 (.ld false 1 56),ju 58 55 (.len false 57),ju 59 55 (.bin .leq .i 58 (ki 10)),jq 60 (.pick 55 59 kf),jm 61 60,ju 62 61 (.fa 2 1),ju 63 61 (.ld false 1 62),ju 64 61 (.call 41 true [63,(ki 0),(ki 240)]),jq 65 (.pick 61 64 kf),jm 2 65] [2] .ret)))
def rv40:List RV:=[.t 2]
def aX (g:G) (t:TE) (a0:Network):List Int→Int→Option (LR Bool Unit)
 |[],v2=>
  some (LR.out ())
 |z2::ls2,v2=>
  lP (cE g t z2 0 60) fun x2=>
  br x2
  (
   br (g.lt 0 v2)
   (
    gd (((0:Int)≤(g.wrap .i64 (g.sub v2 1))))<|
    gt a0.Off (g.nat (g.wrap .i64 (g.sub v2 1))) fun x3=>
    br (g.le z2 x3)
    (
     some (LR.ret false))
    (
     aX g t a0 ls2 (g.wrap .i64 (g.add v2 1))))
   (
    aX g t a0 ls2 (g.wrap .i64 (g.add v2 1))))
  (
   some (LR.ret false))
def bi (g:G) (t:TE):List Leg→Option (LR Bool Unit)
 |[]=>
  some (LR.out ())
 |z1::ls1=>
  cl (hR g t z1) fun x1=>
  br x1
  (
   bi g t ls1)
  (
   some (LR.ret false))
def bV (g:G) (t:TE) (a0:Network):Option Bool:=
 cl (bi g t a0.Legs) fun o1=>lr o1 fun y1=>
 cl (aX g t a0 a0.Off 0) fun o2=>lr o2 fun y2=>
 br (g.le (g.llen (t.r_Leg a0.Legs)) 20)
 (
  br (g.le (g.llen (t.r_I64 a0.Off)) 10)
  (
   lP (cE g t a0.Change 0 240) fun x4=>
   some x4)
  (
   some false))
 (
  some false)
theorem go {g:G} {t:TE} {a0:Network} {r:Bool} (hg:g=G.real) (ht:t=TE.real) (h:bV g t a0=some r):Fn Tryz.prog 40 [.g (Network.rs t a0)] (.c (.r (.v (.bool r)))):=by
 obtain⟨X,hX⟩:=bg (.c (.r (.v (.bool r))):X);rw[←hX];refine aD (rvs:=rv40) (j:=ir40) Tryz.func40 rfl (by kernel_rfl) (nb rfl) (by kernel_rfl) ae ?_;intro g2 F hg2 hF;obtain rfl:g2=g:=hg2.unique.trans hg.symm;clear hg2;obtain⟨wrap,lt,le,_,_,_,_,_,_,_,_,_,_,add,_,_,_,_,_,_,_,llen⟩:=g2;obtain⟨_,_,r_Leg,_,r_I64⟩:=t;obtain⟨a0_Legs,a0_Off,a0_Change⟩:=a0
 unfold bV at h;try dsimp only at h
 cbv;obtain⟨o1,ho1,h⟩:=ai h;try dsimp only at h
 try rw[hg] at ho1
 try rw[ht] at ho1
 refine ABL.mk {p:Nat×Int//p.1≤a0_Legs.length∧p.2=((p.1:Nat):Int)∧bi G.real TE.real (List.drop p.1 a0_Legs)=some o1} (fun⟨⟨k1,v1⟩,_⟩=>({sl:=[(1,.c (.p 0 3 0 0)),(3,.c (.r (.v (.int .i64 v1))))],tab:=[(0,some (.foc 3 [] [.r (.s 6 (r_Leg a0_Legs)),.r (.s 1 (r_I64 a0_Off)),.r (.v (.int .i64 a0_Change))] []))]}:St)) 1 (fun p=>a0_Legs.length-p.1.1) ⟨(0,0),Nat.zero_le _,rfl,ho1⟩ (Unit) (fun _=>({sl:=[(1,.c (.p 0 3 0 0))],tab:=[(0,some (.foc 3 [] [.r (.s 6 (r_Leg a0_Legs)),.r (.s 1 (r_I64 a0_Off)),.r (.v (.int .i64 a0_Change))] []))]}:St)) 1 (fun y=>o1=LR.out y) ?_ ?_ ?_
 ·refine Wk.of [(0,some 0)] rfl rfl ?_ ?_
  ·cbv;all_goals exact⟨⟨_,rfl,rfl⟩,⟨_,rfl,rfl⟩,trivial⟩
  cbv;all_goals exact⟨⟨_,rfl,_,rfl,rfl,rfl,rfl,trivial⟩,trivial⟩
 ·rintro⟨⟨k1,v1⟩,hk1,hi1,h_1⟩ hq1;have hm1:=(hq1.2.2.1 0 _ _ _ _ 0 _ _ rfl rfl);try dsimp only at hk1 hi1 h_1
  clear hq1;cbv
  by_cases hc1_:k1<a0_Legs.length
  ·have hb1:lt v1 (llen (r_Leg a0_Legs))=true:=cv hg ht hi1 hc1_;have hs1:=dY hg ht hi1 hc1_ hm1;obtain⟨z1,hz1⟩:=aV hc1_;rw[aF hz1] at h_1;rw[bi] at h_1;obtain⟨z1_From,z1_To,z1_Start,z1_Takes,z1_Days,z1_Room⟩:=z1;try rw[←hg] at h_1
   try rw[←ht] at h_1
   try dsimp only at h_1
   rw[hb1];cbv;refine AStep.mk (fR hi1) ?_;cbv;refine AGet.mk _ (dw hg ht hi1 hz1) ?_;cbv;obtain⟨x1,hx1,h_1⟩:=ai h_1;try dsimp only at h_1
   refine ACall.mk _ _ rfl (hF _ _ _ (rK hg ht hx1)) (.inl rfl) (nb rfl) ?_;cbv
   cases hb2:x1
   ·rw[aa hb2] at h_1;cbv;obtain rfl:=Option.some.inj h_1;try dsimp only[lr,lrL,lrp,bQ] at h
    obtain rfl:=Option.some.inj h;exact ARet.mk trivial hX.symm
   rw[ab hb2] at h_1;cbv;try rw[hg] at h_1
   try rw[ht] at h_1
   refine⟨⟨(k1+1,(wrap .i64 (add v1 1))),hc1_,hs1,h_1⟩,Wk.of [(0,some 0)] rfl rfl ?_ ?_,cF hc1_⟩
   ·cbv;all_goals exact⟨⟨_,rfl,rfl⟩,⟨_,rfl,rfl⟩,trivial⟩
   cbv;all_goals exact⟨⟨_,rfl,_,rfl,rfl,rfl,rfl,trivial⟩,trivial⟩
  have hb1:lt v1 (llen (r_Leg a0_Legs))=false:=ci hg ht hi1 hc1_;rw[List.drop_of_length_le (Nat.le_of_not_lt hc1_)] at h_1;rw[bi] at h_1;try rw[←hg] at h_1
  try rw[←ht] at h_1
  try dsimp only at h_1
  rw[hb1];cbv;refine⟨(),Wk.of [(0,some 0)] rfl rfl ?_ ?_,(Option.some.inj h_1).symm⟩
  ·cbv;all_goals exact⟨⟨_,rfl,rfl⟩,trivial⟩
  cbv;all_goals exact⟨⟨_,rfl,_,rfl,rfl,rfl,rfl,trivial⟩,trivial⟩
 rintro _ hy1;replace hy1:=hy1.symm;subst hy1;try dsimp only[lr,lrL,lrp,bQ] at h
 cbv;obtain⟨o2,ho2,h⟩:=ai h;try dsimp only at h
 try rw[hg] at ho2
 try rw[ht] at ho2
 refine ABL.mk {p:Nat×Int//p.1≤a0_Off.length∧p.2=((p.1:Nat):Int)∧aX G.real TE.real (Network.mk a0_Legs a0_Off a0_Change) (List.drop p.1 a0_Off) p.2=some o2} (fun⟨⟨k2,v2⟩,_⟩=>({sl:=[(1,.c (.p 0 3 0 0)),(4,.c (.r (.v (.int .i64 v2))))],tab:=[(0,some (.foc 3 [] [.r (.s 6 (r_Leg a0_Legs)),.r (.s 1 (r_I64 a0_Off)),.r (.v (.int .i64 a0_Change))] []))]}:St)) 1 (fun p=>a0_Off.length-p.1.1) ⟨(0,0),Nat.zero_le _,rfl,ho2⟩ (Unit) (fun _=>({sl:=[(1,.c (.p 0 3 0 0))],tab:=[(0,some (.foc 3 [] [.r (.s 6 (r_Leg a0_Legs)),.r (.s 1 (r_I64 a0_Off)),.r (.v (.int .i64 a0_Change))] []))]}:St)) 1 (fun y=>o2=LR.out y) ?_ ?_ ?_
 ·refine Wk.of [(0,some 0)] rfl rfl ?_ ?_
  ·cbv;all_goals exact⟨⟨_,rfl,rfl⟩,⟨_,rfl,rfl⟩,trivial⟩
  cbv;all_goals exact⟨⟨_,rfl,_,rfl,rfl,rfl,rfl,trivial⟩,trivial⟩
 ·rintro⟨⟨k2,v2⟩,hk2,hi2,h_2⟩ hq2;have hm2:=(hq2.2.2.1 0 _ _ _ _ 1 _ _ rfl rfl);try dsimp only at hk2 hi2 h_2
  clear hq2;cbv
  by_cases hc2_:k2<a0_Off.length
  ·have hb3:lt v2 (llen (r_I64 a0_Off))=true:=cw hg ht hi2 hc2_;have hs2:=dW hg ht hi2 hc2_ hm2;obtain⟨z2,hz2⟩:=aV hc2_;rw[aF hz2] at h_2;rw[aX] at h_2;try rw[←hg] at h_2
   try rw[←ht] at h_2
   try dsimp only at h_2
   rw[hb3];cbv;refine AStep.mk (fR hi2) ?_;cbv;refine AGet.mk _ (cM hg ht hi2 hz2) ?_;cbv;obtain⟨x2,hx2,h_2⟩:=am h_2;try dsimp only at h_2
   refine ACall.mk _ _ rfl (hF _ _ _ (ce hg ht hx2)) (.inl rfl) (nb rfl) ?_;cbv
   cases hb4:x2
   ·rw[aa hb4] at h_2;cbv;iterate 4 try(rw[hb4];cbv)
    obtain rfl:=Option.some.inj h_2;try dsimp only[lr,lrL,lrp,bQ] at h
    obtain rfl:=Option.some.inj h;exact ARet.mk trivial hX.symm
   rw[ab hb4] at h_2;cbv;iterate 2 try(rw[hb4];cbv)
   cases hb5:(lt 0 v2)
   ·rw[aa hb5] at h_2;cbv;iterate 11 try(rw[hb5];cbv)
    try(rw[hb4];cbv)
    try(rw[hb5];cbv)
    try(rw[hb4];cbv)
    try rw[hg] at h_2
    try rw[ht] at h_2
    refine⟨⟨(k2+1,(wrap .i64 (add v2 1))),hc2_,hs2,h_2⟩,Wk.of [(0,some 0)] rfl rfl ?_ ?_,cF hc2_⟩
    ·cbv;all_goals exact⟨⟨_,rfl,rfl⟩,⟨_,rfl,rfl⟩,trivial⟩
    cbv;all_goals exact⟨⟨_,rfl,_,rfl,rfl,rfl,rfl,trivial⟩,trivial⟩
   rw[ab hb5] at h_2;cbv;iterate 4 try(rw[hb5];cbv)
   obtain⟨hc1,h_2⟩:=ah h_2;refine AStep.mk hc1 ?_;cbv;obtain⟨x3,hx3,h_2⟩:=dc h_2;try dsimp only at h_2
   refine AGet.mk _ (gb hg ht hx3) ?_;cbv;iterate 5 try(rw[hb5];cbv)
   refine AStep.mk (fR hi2) ?_;cbv;refine AGet.mk _ (cM hg ht hi2 hz2) ?_;cbv;iterate 2 try(rw[hb5];cbv)
   try(rw[hb4];cbv)
   try(rw[hb5];cbv)
   try(rw[hb4];cbv)
   cases hb6:(le z2 x3)
   rotate_left
   ·rw[ab hb6] at h_2;cbv;obtain rfl:=Option.some.inj h_2;try dsimp only[lr,lrL,lrp,bQ] at h
    obtain rfl:=Option.some.inj h;exact ARet.mk trivial hX.symm
   rw[aa hb6] at h_2;cbv;try rw[hg] at h_2
   try rw[ht] at h_2
   refine⟨⟨(k2+1,(wrap .i64 (add v2 1))),hc2_,hs2,h_2⟩,Wk.of [(0,some 0)] rfl rfl ?_ ?_,cF hc2_⟩
   ·cbv;all_goals exact⟨⟨_,rfl,rfl⟩,⟨_,rfl,rfl⟩,trivial⟩
   cbv;all_goals exact⟨⟨_,rfl,_,rfl,rfl,rfl,rfl,trivial⟩,trivial⟩
  have hb3:lt v2 (llen (r_I64 a0_Off))=false:=ch hg ht hi2 hc2_;rw[List.drop_of_length_le (Nat.le_of_not_lt hc2_)] at h_2;rw[aX] at h_2;try rw[←hg] at h_2
  try rw[←ht] at h_2
  try dsimp only at h_2
  rw[hb3];cbv;refine⟨(),Wk.of [(0,some 0)] rfl rfl ?_ ?_,(Option.some.inj h_2).symm⟩
  ·cbv;all_goals exact⟨⟨_,rfl,rfl⟩,trivial⟩
  cbv;all_goals exact⟨⟨_,rfl,_,rfl,rfl,rfl,rfl,trivial⟩,trivial⟩
 rintro _ hy2;replace hy2:=hy2.symm;subst hy2;try dsimp only[lr,lrL,lrp,bQ] at h
 cbv
 cases hb7:(le (llen (r_Leg a0_Legs)) 20)
 ·rw[aa hb7] at h;cbv;iterate 4 try(rw[hb7];cbv)
  obtain rfl:=Option.some.inj h;exact ARet.mk trivial hX.symm
 rw[ab hb7] at h;cbv;iterate 4 try(rw[hb7];cbv)
 cases hb8:(le (llen (r_I64 a0_Off)) 10)
 ·rw[aa hb8] at h;cbv;iterate 3 try(rw[hb8];cbv)
  obtain rfl:=Option.some.inj h;exact ARet.mk trivial hX.symm
 rw[ab hb8] at h;cbv;iterate 2 try(rw[hb8];cbv)
 obtain⟨x4,hx4,h⟩:=am h;try dsimp only at h
 refine ACall.mk _ _ rfl (hF _ _ _ (ce hg ht hx4)) (.inl rfl) (nb rfl) ?_;cbv;try(rw[hb8];cbv)
 obtain rfl:=Option.some.inj h;exact ARet.mk trivial hX.symm
def ir42:J:=js [jm 4 (ki 0)] [0,1] (.seq (js [jm 5 (ki 0)] [0,1,5] (.bl 0 (.seq (js [jm 6 5,jm 7 0,jq 8 (.len false 7),jb 9 .lss .i 6 8] [0,1,5,9] (.cond 9 .skip (.exit 0))) (.seq (.block 1 (js [jm 12 0,jm 13 5,ja 14 1 12 13,jk 15 14,jm 16 1,jb 17 .eql .s 15 16] [0,1,5,17] (.cond 17 (js [jm 18 5,jm 4 18] [4] .ret) .skip))) (.reg none [jm 10 5,jb 11 .add .i 10 (ki 1),jm 5 11] [0,1,5]))))) (js [jq 4 (.mv (.k (V.i (-1))))] [4] .ret))
def rv42:List RV:=[.t 4]
def bu (g:G) (t:TE) (a1:ByteArray):List ByteArray→Int→LR Int Unit
 |[],v1=>
  (LR.out ())
 |z1::ls1,v1=>
  br (g.seq z1 a1)
  (
   (LR.ret v1))
  (
   bu g t a1 ls1 (g.wrap .i64 (g.add v1 1)))
def dV (g:G) (t:TE) (a0:List ByteArray) (a1:ByteArray):Int:=
 lP (bu g t a1 a0 0) fun o1=>lrp o1 fun y1=>
 (-1)
theorem i7 {g:G} {t:TE} {a0:List ByteArray} {a1:ByteArray} {r:Int} (hg:g=G.real) (ht:t=TE.real) (h:dV g t a0 a1=r):Fn Tryz.prog 42 [.c (.s 1 (t.r_S a0)),.c (.v (.string a1))] (.c (.r (.v (.int .i64 r)))):=by
 obtain⟨X,hX⟩:=bg (.c (.r (.v (.int .i64 r))):X);rw[←hX];refine aD (rvs:=rv42) (j:=ir42) Tryz.func42 rfl (by kernel_rfl) (nb rfl) (by kernel_rfl) ae ?_;intro g2 F hg2 hF;obtain rfl:g2=g:=hg2.unique.trans hg.symm;clear hg2;obtain⟨wrap,lt,_,_,_,_,_,_,_,_,_,_,_,add,_,_,_,seq,_,_,_,llen⟩:=g2;obtain⟨_,_,_,_,_,_,r_S⟩:=t;unfold dV at h;try dsimp only at h
 cbv;obtain⟨o1,ho1,h⟩:=am h;try dsimp only at h
 try rw[hg] at ho1
 try rw[ht] at ho1
 refine ABL.mk {p:Nat×Int//p.1≤a0.length∧p.2=((p.1:Nat):Int)∧bu G.real TE.real a1 (List.drop p.1 a0) p.2=o1} (fun⟨⟨k1,v1⟩,_⟩=>({sl:=[(0,.c (.r (.s 1 (r_S a0)))),(1,.c (.r (.v (.string a1)))),(5,.c (.r (.v (.int .i64 v1))))],tab:=[]}:St)) 0 (fun p=>a0.length-p.1.1) ⟨(0,0),Nat.zero_le _,rfl,ho1⟩ (Unit) (fun _=>({sl:=[],tab:=[]}:St)) 0 (fun y=>o1=LR.out y) ?_ ?_ ?_
 ·refine Wk.of [] rfl rfl ?_ ?_
  ·cbv;all_goals exact⟨⟨_,rfl,rfl⟩,⟨_,rfl,rfl⟩,⟨_,rfl,rfl⟩,trivial⟩
  cbv;all_goals exact trivial
 ·rintro⟨⟨k1,v1⟩,hk1,hi1,h_1⟩ hq1;have hm1:=(hq1.1 0 _ _ rfl);try dsimp only at hk1 hi1 h_1
  clear hq1;cbv
  by_cases hc1_:k1<a0.length
  ·have hb1:lt v1 (llen (r_S a0))=true:=kw hg ht hi1 hc1_;have hs1:=qp hg ht hi1 hc1_ hm1;obtain⟨z1,hz1⟩:=aV hc1_;rw[aF hz1] at h_1;rw[bu] at h_1;try rw[←hg] at h_1
   try rw[←ht] at h_1
   try dsimp only at h_1
   rw[hb1];cbv;refine AStep.mk (fR hi1) ?_;cbv;refine AGet.mk _ (n6 hg ht hi1 hz1) ?_;cbv
   cases hb2:(seq z1 a1)
   rotate_left
   ·rw[ab hb2] at h_1;cbv;subst h_1;try dsimp only[lr,lrL,lrp,bQ] at h
    subst h;exact ARet.mk trivial hX.symm
   rw[aa hb2] at h_1;cbv;try rw[hg] at h_1
   try rw[ht] at h_1
   refine⟨⟨(k1+1,(wrap .i64 (add v1 1))),hc1_,hs1,h_1⟩,Wk.of [] rfl rfl ?_ ?_,cF hc1_⟩
   ·cbv;all_goals exact⟨⟨_,rfl,rfl⟩,⟨_,rfl,rfl⟩,⟨_,rfl,rfl⟩,trivial⟩
   cbv;all_goals exact trivial
  have hb1:lt v1 (llen (r_S a0))=false:=jh hg ht hi1 hc1_;rw[List.drop_of_length_le (Nat.le_of_not_lt hc1_)] at h_1;rw[bu] at h_1;try rw[←hg] at h_1
  try rw[←ht] at h_1
  try dsimp only at h_1
  rw[hb1];cbv;refine⟨(),Wk.of [] rfl rfl ?_ ?_,h_1.symm⟩
  ·cbv;all_goals exact trivial
  cbv;all_goals exact trivial
 rintro _ hy1;replace hy1:=hy1.symm;subst hy1;try dsimp only[lr,lrL,lrp,bQ] at h
 cbv;subst h;exact ARet.mk trivial hX.symm
def wq:J:=js [jm 4 kf] [0,1] (.seq (js [jm 5 (ki 0)] [0,1,5] (.bl 0 (.seq (js [jm 6 5,jm 7 0,jq 8 (.len false 7),jb 9 .lss .i 6 8] [0,1,5,9] (.cond 9 .skip (.exit 0))) (.seq (.block 1 (js [jm 12 0,jm 13 5,ja 14 1 12 13,jk 15 14,jm 16 1,jb 17 .eql .i 15 16] [0,1,5,17] (.cond 17 (js [jm 4 kt] [4] .ret) .skip))) (.reg none [jm 10 5,jb 11 .add .i 10 (ki 1),jm 5 11] [0,1,5]))))) (js [jm 4 kf] [4] .ret))
def wr:List RV:=[.t 4]
def cu (g:G) (t:TE) (a1:Int):List Int→LR Bool Unit
 |[]=>
  (LR.out ())
 |z1::ls1=>
  br (g.eq z1 a1)
  (
   (LR.ret true))
  (
   cu g t a1 ls1)
def jQ (g:G) (t:TE) (a0:List Int) (a1:Int):Bool:=
 lP (cu g t a1 a0) fun o1=>lrp o1 fun y1=>
 false
theorem qC {g:G} {t:TE} {a0:List Int} {a1:Int} {r:Bool} (hg:g=G.real) (ht:t=TE.real) (h:jQ g t a0 a1=r):Fn Tryz.prog 124 [.c (.s 1 (t.r_I64 a0)),.c (.v (.int .i64 a1))] (.c (.r (.v (.bool r)))):=by
 obtain⟨X,hX⟩:=bg (.c (.r (.v (.bool r))):X);rw[←hX];refine aD (rvs:=wr) (j:=wq) Tryz.func124 rfl (by kernel_rfl) (nb rfl) (by kernel_rfl) ae ?_;intro g2 F hg2 hF;obtain rfl:g2=g:=hg2.unique.trans hg.symm;clear hg2;obtain⟨wrap,lt,_,eq,_,_,_,_,_,_,_,_,_,add,_,_,_,_,_,_,_,llen⟩:=g2;obtain⟨_,_,_,_,r_I64⟩:=t;unfold jQ at h;try dsimp only at h
 cbv;obtain⟨o1,ho1,h⟩:=am h;try dsimp only at h
 try rw[hg] at ho1
 try rw[ht] at ho1
 refine ABL.mk {p:Nat×Int//p.1≤a0.length∧p.2=((p.1:Nat):Int)∧cu G.real TE.real a1 (List.drop p.1 a0)=o1} (fun⟨⟨k1,v1⟩,_⟩=>({sl:=[(0,.c (.r (.s 1 (r_I64 a0)))),(1,.c (.r (.v (.int .i64 a1)))),(5,.c (.r (.v (.int .i64 v1))))],tab:=[]}:St)) 0 (fun p=>a0.length-p.1.1) ⟨(0,0),Nat.zero_le _,rfl,ho1⟩ (Unit) (fun _=>({sl:=[],tab:=[]}:St)) 0 (fun y=>o1=LR.out y) ?_ ?_ ?_
 ·refine Wk.of [] rfl rfl ?_ ?_
  ·cbv;all_goals exact⟨⟨_,rfl,rfl⟩,⟨_,rfl,rfl⟩,⟨_,rfl,rfl⟩,trivial⟩
  cbv;all_goals exact trivial
 ·rintro⟨⟨k1,v1⟩,hk1,hi1,h_1⟩ hq1;have hm1:=(hq1.1 0 _ _ rfl);try dsimp only at hk1 hi1 h_1
  clear hq1;cbv
  by_cases hc1_:k1<a0.length
  ·have hb1:lt v1 (llen (r_I64 a0))=true:=cw hg ht hi1 hc1_;have hs1:=dW hg ht hi1 hc1_ hm1;obtain⟨z1,hz1⟩:=aV hc1_;rw[aF hz1] at h_1;rw[cu] at h_1;try rw[←hg] at h_1
   try rw[←ht] at h_1
   try dsimp only at h_1
   rw[hb1];cbv;refine AStep.mk (fR hi1) ?_;cbv;refine AGet.mk _ (cM hg ht hi1 hz1) ?_;cbv
   cases hb2:(eq z1 a1)
   rotate_left
   ·rw[ab hb2] at h_1;cbv;subst h_1;try dsimp only[lr,lrL,lrp,bQ] at h
    subst h;exact ARet.mk trivial hX.symm
   rw[aa hb2] at h_1;cbv;try rw[hg] at h_1
   try rw[ht] at h_1
   refine⟨⟨(k1+1,(wrap .i64 (add v1 1))),hc1_,hs1,h_1⟩,Wk.of [] rfl rfl ?_ ?_,cF hc1_⟩
   ·cbv;all_goals exact⟨⟨_,rfl,rfl⟩,⟨_,rfl,rfl⟩,⟨_,rfl,rfl⟩,trivial⟩
   cbv;all_goals exact trivial
  have hb1:lt v1 (llen (r_I64 a0))=false:=ch hg ht hi1 hc1_;rw[List.drop_of_length_le (Nat.le_of_not_lt hc1_)] at h_1;rw[cu] at h_1;try rw[←hg] at h_1
  try rw[←ht] at h_1
  try dsimp only at h_1
  rw[hb1];cbv;refine⟨(),Wk.of [] rfl rfl ?_ ?_,h_1.symm⟩
  ·cbv;all_goals exact trivial
  cbv;all_goals exact trivial
 rintro _ hy1;replace hy1:=hy1.symm;subst hy1;try dsimp only[lr,lrL,lrp,bQ] at h
 cbv;subst h;exact ARet.mk trivial hX.symm
def ir99:J:=js [jq 3 (.box 0),jm 6 kf] [1,2,3] (js [jm 7 1,jf 8 0 3,jk 9 8,jq 10 (.len false 9),jb 11 .sub .i 10 (ki 1),jc 12 41 [7,(ki 0),11],jm 13 12,ju 14 13 (.mv 2),ju 15 13 (.call 41 true [14,(ki 0),(ki 60)]),jq 16 (.pick 13 15 kf),jm 17 16,ju 18 17 (.fa 0 3),ju 19 17 (.ld false 1 18),ju 20 17 (.mv 1),ju 21 17 (.ia 6 19 20),ju 22 17 (.fa 4 21),ju 23 17 (.ld false 1 22),ju 24 17 (.mv 2),ju 25 17 (.bin .rem .i 24 (ki 7)),ju 26 17 (.bin .shr .i 23 25),ju 27 17 (.bin .and .i 26 (ki 1)),ju 28 17 (.bin .eql .i 27 (ki 1)),jq 29 (.pick 17 28 kf),jm 30 29,ju 31 30 (.fa 1 3),ju 32 30 (.ld false 1 31),ju 33 30 (.mv 2),ju 34 30 (.call 124 true [32,33]),ju 35 30 (.not 34),jq 36 (.pick 30 35 kf),jm 6 36] [6] .ret)
def rv99:List RV:=[.t 6]
def ec (g:G) (t:TE) (a0:Network) (a1:Int) (a2:Int):Option Bool:=
 lP (cE g t a1 0 (g.wrap .i64 (g.sub (g.llen (t.r_Leg a0.Legs)) 1))) fun x1=>
 br x1
 (
  lP (cE g t a2 0 60) fun x2=>
  br x2
  (
   gd (((0:Int)≤a1))<|
   gt a0.Legs (g.nat a1) fun x3=>
   gd (((0:Int)≤(g.rem a2 7)))<|
   br (g.eq (g.band .i64 (g.shr .i64 x3.Days (g.rem a2 7)) 1) 1)
   (
    lP (jQ g t a0.Off a2) fun x4=>
    some (!x4))
   (
    some false))
  (
   some false))
 (
  some false)
theorem oX {g:G} {t:TE} {a0:Network} {a1:Int} {a2:Int} {r:Bool} (hg:g=G.real) (ht:t=TE.real) (h:ec g t a0 a1 a2=some r):Fn Tryz.prog 99 [.g (Network.rs t a0),.c (.v (.int .i64 a1)),.c (.v (.int .i64 a2))] (.c (.r (.v (.bool r)))):=by
 obtain⟨X,hX⟩:=bg (.c (.r (.v (.bool r))):X);rw[←hX];refine aD (rvs:=rv99) (j:=ir99) Tryz.func99 rfl (by kernel_rfl) (nb rfl) (by kernel_rfl) ae ?_;intro g2 F hg2 hF;obtain rfl:g2=g:=hg2.unique.trans hg.symm;clear hg2;obtain⟨_,_,_,eq,_,rem,band,_,_,_,shr⟩:=g2;obtain⟨_⟩:=t;obtain⟨a0_Legs,a0_Off,a0_Change⟩:=a0
 unfold ec at h;try dsimp only at h
 cbv;obtain⟨x1,hx1,h⟩:=am h;try dsimp only at h
 refine ACall.mk _ _ rfl (hF _ _ _ (ce hg ht hx1)) (.inl rfl) (nb rfl) ?_;cbv
 cases hb1:x1
 ·rw[aa hb1] at h;cbv;iterate 2 try(rw[hb1];cbv)
  obtain rfl:=Option.some.inj h;exact ARet.mk trivial hX.symm
 rw[ab hb1] at h;cbv;try(rw[hb1];cbv)
 obtain⟨x2,hx2,h⟩:=am h;try dsimp only at h
 refine ACall.mk _ _ rfl (hF _ _ _ (ce hg ht hx2)) (.inl rfl) (nb rfl) ?_;cbv;try(rw[hb1];cbv)
 cases hb2:x2
 ·rw[aa hb2] at h;cbv;iterate 11 try(rw[hb2];cbv)
  obtain rfl:=Option.some.inj h;exact ARet.mk trivial hX.symm
 rw[ab hb2] at h;cbv;iterate 3 try(rw[hb2];cbv)
 obtain⟨hc1,h⟩:=ah h;refine AStep.mk hc1 ?_;cbv;obtain⟨x3,hx3,h⟩:=dc h;obtain⟨x3_From,x3_To,x3_Start,x3_Takes,x3_Days,x3_Room⟩:=x3;try dsimp only at h
 refine AGet.mk _ (cg hg ht hx3) ?_;cbv;iterate 4 try(rw[hb2];cbv)
 refine AStep.mk (by decide) ?_;cbv;try(rw[hb2];cbv)
 obtain⟨hc2,h⟩:=ah h;refine AStep.mk hc2 ?_;cbv;iterate 3 try(rw[hb2];cbv)
 cases hb3:(eq (band .i64 (shr .i64 x3_Days (rem a2 7)) 1) 1)
 ·rw[aa hb3] at h;cbv;iterate 5 try(rw[hb3];cbv)
  obtain rfl:=Option.some.inj h;exact ARet.mk trivial hX.symm
 rw[ab hb3] at h;cbv;iterate 3 try(rw[hb3];cbv)
 obtain⟨x4,hx4,h⟩:=am h;try dsimp only at h
 refine ACall.mk _ _ rfl (hF _ _ _ (qC hg ht hx4)) (.inl rfl) (nb rfl) ?_;cbv;iterate 2 try(rw[hb3];cbv)
 obtain rfl:=Option.some.inj h;exact ARet.mk trivial hX.symm
def ir73:J:=js [jq 3 (.box 0),jm 6 kf] [1,2,3] (js [jl 7 3 3,jc 8 40 [7],jm 9 8,ju 10 9 (.ld true 3 3),ju 11 9 (.mv 1),ju 12 9 (.mv 2),ju 13 9 (.call 99 true [10,11,12]),jq 14 (.pick 9 13 kf),jm 6 14] [6] .ret)
def rv73:List RV:=[.t 6]
def iz (g:G) (t:TE) (a0:Network) (a1:Int) (a2:Int):Option Bool:=
 cl (bV g t a0) fun x1=>
 br x1
 (
  cl (ec g t a0 a1 a2) fun x2=>
  some x2)
 (
  some false)
theorem pp {g:G} {t:TE} {a0:Network} {a1:Int} {a2:Int} {r:Bool} (hg:g=G.real) (ht:t=TE.real) (h:iz g t a0 a1 a2=some r):Fn Tryz.prog 73 [.g (Network.rs t a0),.c (.v (.int .i64 a1)),.c (.v (.int .i64 a2))] (.c (.r (.v (.bool r)))):=by
 obtain⟨X,hX⟩:=bg (.c (.r (.v (.bool r))):X);rw[←hX];refine aD (rvs:=rv73) (j:=ir73) Tryz.func73 rfl (by kernel_rfl) (nb rfl) (by kernel_rfl) ae ?_;intro g2 F hg2 hF;obtain rfl:g2=g:=hg2.unique.trans hg.symm;clear hg2;obtain⟨_⟩:=g2;obtain⟨_⟩:=t;obtain⟨a0_Legs,a0_Off,a0_Change⟩:=a0
 unfold iz at h;try dsimp only at h
 cbv;obtain⟨x1,hx1,h⟩:=ai h;try dsimp only at h
 refine ACall.mk _ _ rfl (hF _ _ _ (go hg ht hx1)) (.inl rfl) (nb rfl) ?_;cbv
 cases hb1:x1
 ·rw[aa hb1] at h;cbv;iterate 4 try(rw[hb1];cbv)
  obtain rfl:=Option.some.inj h;exact ARet.mk trivial hX.symm
 rw[ab hb1] at h;cbv;iterate 3 try(rw[hb1];cbv)
 obtain⟨x2,hx2,h⟩:=ai h;try dsimp only at h
 refine ACall.mk _ _ rfl (hF _ _ _ (oX hg ht hx2)) (.inl rfl) (nb rfl) ?_;cbv;try(rw[hb1];cbv)
 obtain rfl:=Option.some.inj h;exact ARet.mk trivial hX.symm
def ir43:J:=js [jq 2 (.box 0),jq 3 (.box 1),jm 4 kf] [2,3] (js [jl 5 3 2,jf 6 0 3,jk 7 6,jf 8 1 3,jk 9 8,jc 10 73 [5,7,9],jm 4 10] [4] .ret)
def rv43:List RV:=[.t 4]
def ee (g:G) (t:TE) (a0:Network) (a1:Trip):Option Bool:=
 cl (iz g t a0 a1.Leg a1.Day) fun x1=>
 some x1
theorem lq {g:G} {t:TE} {a0:Network} {a1:Trip} {r:Bool} (hg:g=G.real) (ht:t=TE.real) (h:ee g t a0 a1=some r):Fn Tryz.prog 43 [.g (Network.rs t a0),.g (Trip.rs t a1)] (.c (.r (.v (.bool r)))):=by
 obtain⟨X,hX⟩:=bg (.c (.r (.v (.bool r))):X);rw[←hX];refine aD (rvs:=rv43) (j:=ir43) Tryz.func43 rfl (by kernel_rfl) (nb rfl) (by kernel_rfl) ae ?_;intro g2 F hg2 hF;obtain rfl:g2=g:=hg2.unique.trans hg.symm;clear hg2;obtain⟨_⟩:=g2;obtain⟨_⟩:=t;obtain⟨a0_Legs,a0_Off,a0_Change⟩:=a0
 obtain⟨a1_Leg,a1_Day⟩:=a1;unfold ee at h;try dsimp only at h
 cbv;obtain⟨x1,hx1,h⟩:=ai h;try dsimp only at h
 refine ACall.mk _ _ rfl (hF _ _ _ (pp hg ht hx1)) (.inl rfl) (nb rfl) ?_;cbv;obtain rfl:=Option.some.inj h;exact ARet.mk trivial hX.symm
def ir44:J:=js [jq 2 (.box 0),jq 3 (.box 1),jm 4 (ki 0)] [2,3] (.seq (.reg (some [[],[0],[0,1],[],[3],[],[5],[3,4,5,6],[3,4,5,6,7],[3,4,5,6,7,8],[0,1,2,3,4,5,6,7,8,9],[0,1,2,3,4,5,6,7,8,9,10]]) [jf 5 1 3,jk 6 5,jb 7 .mul .i 6 (ki 1440),jf 8 0 2,jk 9 8,jf 10 0 3,jk 11 10,ja 12 6 9 11,jf 13 2 12,jk 14 13,jb 15 .add .i 7 14,jm 4 15] [4]) .ret)
def rv44:List RV:=[.t 4]
def dg (g:G) (t:TE) (a0:Network) (a1:Trip):Option Int:=
 gd (((0:Int)≤a1.Leg))<|
 gt a0.Legs (g.nat a1.Leg) fun x1=>
 some (g.wrap .i64 (g.add (g.wrap .i64 (g.mul a1.Day 1440)) x1.Start))
theorem ip {g:G} {t:TE} {a0:Network} {a1:Trip} {r:Int} (hg:g=G.real) (ht:t=TE.real) (h:dg g t a0 a1=some r):Fn Tryz.prog 44 [.g (Network.rs t a0),.g (Trip.rs t a1)] (.c (.r (.v (.int .i64 r)))):=by
 obtain⟨X,hX⟩:=bg (.c (.r (.v (.int .i64 r))):X);rw[←hX];refine aD (rvs:=rv44) (j:=ir44) Tryz.func44 rfl (by kernel_rfl) (nb rfl) (by kernel_rfl) ae ?_;intro g2 F hg2 hF;obtain rfl:g2=g:=hg2.unique.trans hg.symm;clear hg2;obtain⟨_⟩:=g2;obtain⟨_⟩:=t;obtain⟨a0_Legs,a0_Off,a0_Change⟩:=a0
 obtain⟨a1_Leg,a1_Day⟩:=a1;unfold dg at h;try dsimp only at h
 cbv;obtain⟨hc1,h⟩:=ah h;refine AStep.mk hc1 ?_;cbv;obtain⟨x1,hx1,h⟩:=dc h;obtain⟨x1_From,x1_To,x1_Start,x1_Takes,x1_Days,x1_Room⟩:=x1;try dsimp only at h
 refine AGet.mk _ (cg hg ht hx1) ?_;cbv;obtain rfl:=Option.some.inj h;exact ARet.mk trivial hX.symm
def ir45:J:=js [jq 2 (.box 0),jq 3 (.box 1),jm 4 (ki 0)] [2,3] (.seq (.reg (some [[],[],[0,1],[],[3],[],[5],[3,4,5,6],[3,4,5,6,7],[3,4,5,6,7,8],[0,1,2,3,4,5,6,7,8,9],[0,1,2,3,4,5,6,7,8,9,10]]) [jl 5 3 2,jl 6 2 3,jc 7 44 [5,6],jf 8 0 2,jk 9 8,jf 10 0 3,jk 11 10,ja 12 6 9 11,jf 13 3 12,jk 14 13,jb 15 .add .i 7 14,jm 4 15] [4]) .ret)
def rv45:List RV:=[.t 4]
def fT (g:G) (t:TE) (a0:Network) (a1:Trip):Option Int:=
 cl (dg g t a0 a1) fun x1=>
 gd (((0:Int)≤a1.Leg))<|
 gt a0.Legs (g.nat a1.Leg) fun x2=>
 some (g.wrap .i64 (g.add x1 x2.Takes))
theorem pw {g:G} {t:TE} {a0:Network} {a1:Trip} {r:Int} (hg:g=G.real) (ht:t=TE.real) (h:fT g t a0 a1=some r):Fn Tryz.prog 45 [.g (Network.rs t a0),.g (Trip.rs t a1)] (.c (.r (.v (.int .i64 r)))):=by
 obtain⟨X,hX⟩:=bg (.c (.r (.v (.int .i64 r))):X);rw[←hX];refine aD (rvs:=rv45) (j:=ir45) Tryz.func45 rfl (by kernel_rfl) (nb rfl) (by kernel_rfl) ae ?_;intro g2 F hg2 hF;obtain rfl:g2=g:=hg2.unique.trans hg.symm;clear hg2;obtain⟨_⟩:=g2;obtain⟨_⟩:=t;obtain⟨a0_Legs,a0_Off,a0_Change⟩:=a0
 obtain⟨a1_Leg,a1_Day⟩:=a1;unfold fT at h;try dsimp only at h
 cbv;obtain⟨x1,hx1,h⟩:=ai h;try dsimp only at h
 refine ACall.mk _ _ rfl (hF _ _ _ (ip hg ht hx1)) (.inl rfl) (nb rfl) ?_;cbv;obtain⟨hc1,h⟩:=ah h;refine AStep.mk hc1 ?_;cbv;obtain⟨x2,hx2,h⟩:=dc h;obtain⟨x2_From,x2_To,x2_Start,x2_Takes,x2_Days,x2_Room⟩:=x2;try dsimp only at h
 refine AGet.mk _ (cg hg ht hx2) ?_;cbv;obtain rfl:=Option.some.inj h;exact ARet.mk trivial hX.symm
def ir11 (s_k0:ByteArray):J:=js [jq 2 (.box 0),jq 3 (.box 1),jm 4 kf] [2,3] (.seq (js [jl 5 3 2,jc 6 40 [5],jq 7 (.not 6),jm 8 7,jv 9 8 (.fa 0 3),jv 10 8 (.ld false 1 9),jv 11 8 (.call 41 true [10,(ki 1),(ki 9999)]),jv 12 8 (.not 11),jq 13 (.pick 8 kt 12),jm 14 13,jv 15 14 (.fa 1 3),jv 16 14 (.ld false 1 15),jv 17 14 (.call 41 true [16,(ki 0),(ki 100000)]),jv 18 14 (.not 17),jq 19 (.pick 14 kt 18)] [2,3,19] (.cond 19 (js [jm 4 kf] [4] .ret) .skip)) (.seq (js [jf 20 2 3,jk 21 20] [2,3,21] (.block 0 (.seq (js [jb 23 .eql .i 21 (ki 1),jm 22 23] [2,3,21,22] (.cond 22 .skip (.reg none [jb 24 .eql .i 21 (ki 4),jm 22 24] [2,3,21,22]))) (.cond 22 (.seq (.reg (some [[],[0],[],[2],[0,1,2,3],[0,1,2,3,4],[0,1,2,3,4,5],[0,1,2,3,4,5,6],[0,1,2,3,4,5,6,7],[0,1,2,3,4,5,6],[0,1,2,3,4,5,6,7,8,9],[0,1,2,3,4,5,6,7,8,9,10],[0,1,2,3,4,5,6,7,8,9,10,11]]) [jl 25 3 2,jc 26 16 [25],jf 27 3 3,jk 28 27,jc 29 42 [26,28],jb 30 .geq .i 29 (ki 0),jm 31 30,ju 32 31 (.fa 4 3),ju 33 31 (.ld true 2 32),ju 34 31 (.bld [.r (.v (.int .i64 0)),.r (.v (.int .i64 0))] []),ju 35 31 (.eqs false [.i,.i] 33 34),jq 36 (.pick 31 35 kf),jm 4 36] [4]) .ret) (js [jb 38 .eql .i 21 (ki 3),jm 37 38] [2,3,21,37] (.cond 37 (.seq (.reg (some [[],[0],[0,1],[0,1,2],[0,1,2,3],[0,1,2,3],[0,1,2,3,5],[0,1,2,3,4,5,6],[0,1,2,3,4,5,6,7],[0,1,2,3,4,5,6,7,8],[0,1,2,3,4,5,6,7,8,9],[0,1,2,3,4,5,6,7,8,9,10],[0,1,2,3,4,5,6,7,8,9],[0,1,2,3,4,5,6,7,8,9],[0,1,2,3,4,5,6,7,8,9,13],[0,1,2,3,4,5,6,7,8,9,12,13,14],[0,1,2,3,4,5,6,7,8,9,10,11,12,13,14,15],[0,1,2,3,4,5,6,7,8,9,10,11,12,13,14,15,16],[0,1,2,3,4,5,6,7,8,9,10,11,12,13,14,15,16,17]]) [jf 39 3 3,jk 40 39,jq 41 (.bin .eql .s 40 (.k (.c (.r (.v (.string s_k0)))))),jm 42 41,ju 43 42 (.ld true 3 2),ju 44 42 (.fa 4 3),ju 45 42 (.ld true 2 44),ju 46 42 (.call 43 true [43,45]),jq 47 (.pick 42 46 kf),jm 48 47,ju 49 48 (.fa 1 3),ju 50 48 (.ld false 1 49),ju 51 48 (.ld true 3 2),ju 52 48 (.fa 4 3),ju 53 48 (.ld true 2 52),ju 54 48 (.call 44 true [51,53]),ju 55 48 (.bin .leq .i 50 54),jq 56 (.pick 48 55 kf),jm 4 56] [4]) .ret) (js [jb 58 .eql .i 21 (ki 2),jm 57 58] [2,3,57] (.cond 57 (.seq (.reg (some [[],[0],[0,1],[0,1,2],[0,1,2,3],[0,1,2,3],[0,1,2,3,5],[0,1,2,3,4,5,6],[0,1,2,3,4,5,6,7],[0,1,2,3,4,5,6,7,8],[0,1,2,3,4,5,6,7,8,9],[0,1,2,3,4,5,6,7,8,9,10],[0,1,2,3,4,5,6,7,8,9],[0,1,2,3,4,5,6,7,8,9],[0,1,2,3,4,5,6,7,8,9,13],[0,1,2,3,4,5,6,7,8,9,12,13,14],[0,1,2,3,4,5,6,7,8,9,10,11,12,13,14,15],[0,1,2,3,4,5,6,7,8,9,10,11,12,13,14,15,16],[0,1,2,3,4,5,6,7,8,9,10,11,12,13,14,15,16,17]]) [jf 59 3 3,jk 60 59,jq 61 (.bin .eql
 .s 60 (.k (.c (.r (.v (.string s_k0)))))),jm 62 61,ju 63 62 (.ld true 3 2),ju 64 62 (.fa 4 3),ju 65 62 (.ld true 2 64),ju 66 62 (.call 43 true [63,65]),jq 67 (.pick 62 66 kf),jm 68 67,ju 69 68 (.fa 1 3),ju 70 68 (.ld false 1 69),ju 71 68 (.ld true 3 2),ju 72 68 (.fa 4 3),ju 73 68 (.ld true 2 72),ju 74 68 (.call 45 true [71,73]),ju 75 68 (.bin .geq .i 70 74),jq 76 (.pick 68 75 kf),jm 4 76] [4]) .ret) .skip)))))))) (js [jm 4 kf] [4] .ret)))
def rv11:List RV:=[.t 4]
def fQ (g:G) (t:TE) (a0:Network) (a1:Scan):Option Bool:=
 cl (bV g t a0) fun x1=>
 br x1
 (
  lP (cE g t a1.Thing 1 9999) fun x2=>
  br x2
  (
   lP (cE g t a1.At 0 100000) fun x3=>
   br x3
   (
    br (g.eq a1.Kind 1)
    (
     cl (dn g t a0) fun x4=>
     lP (dV g t x4 a1.Place) fun x5=>
     br (g.le 0 x5)
     (
      some (g.all [(g.eq a1.Trip.Leg 0),(g.eq a1.Trip.Day 0)]))
     (
      some false))
    (
     br (g.eq a1.Kind 4)
     (
      cl (dn g t a0) fun x6=>
      lP (dV g t x6 a1.Place) fun x7=>
      br (g.le 0 x7)
      (
       some (g.all [(g.eq a1.Trip.Leg 0),(g.eq a1.Trip.Day 0)]))
      (
       some false))
     (
      br (g.eq a1.Kind 3)
      (
       br (g.seq a1.Place str_k0)
       (
        cl (ee g t a0 (Trip.mk a1.Trip.Leg a1.Trip.Day)) fun x8=>
        br x8
        (
         cl (dg g t a0 (Trip.mk a1.Trip.Leg a1.Trip.Day)) fun x9=>
         some (g.le a1.At x9))
        (
         some false))
       (
        some false))
      (
       br (g.eq a1.Kind 2)
       (
        br (g.seq a1.Place str_k0)
        (
         cl (ee g t a0 (Trip.mk a1.Trip.Leg a1.Trip.Day)) fun x10=>
         br x10
         (
          cl (fT g t a0 (Trip.mk a1.Trip.Leg a1.Trip.Day)) fun x11=>
          some (g.le x11 a1.At))
         (
          some false))
        (
         some false))
       (
        some false)))))
   (
    some false))
  (
   some false))
 (
  some false)
theorem pf {g:G} {t:TE} {a0:Network} {a1:Scan} {r:Bool} (hg:g=G.real) (ht:t=TE.real) (h:fQ g t a0 a1=some r):Fn Tryz.prog 11 [.g (Network.rs t a0),.g (Scan.rs t a1)] (.c (.r (.v (.bool r)))):=by
 obtain⟨X,hX⟩:=bg (.c (.r (.v (.bool r))):X);rw[←hX];refine aD (rvs:=rv11) (j:=(ir11 str_k0)) Tryz.func11 rfl (by kernel_rfl) (nb rfl) (by kernel_rfl) ae ?_;intro g2 F hg2 hF;obtain rfl:g2=g:=hg2.unique.trans hg.symm;clear hg2;obtain⟨_,_,le,eq,_,_,_,_,_,_,_,_,_,_,_,_,_,seq,_,_,_,_,_,_,dlen,_,_,_,rd⟩:=g2;obtain⟨_,_,_,_,_,_,r_S,d_S⟩:=t;obtain⟨a0_Legs,a0_Off,a0_Change⟩:=a0
 obtain⟨a1_Thing,a1_At,a1_Kind,a1_Place,⟨a1_Trip_Leg,a1_Trip_Day⟩⟩:=a1;unfold fQ at h;try dsimp only at h
 obtain⟨s_k0,hs_k0⟩:∃s,str_k0=s:=⟨_,rfl⟩;try rw[hs_k0] at h
 rw[hs_k0];cbv;obtain⟨x1,hx1,h⟩:=ai h;try dsimp only at h
 refine ACall.mk _ _ rfl (hF _ _ _ (go hg ht hx1)) (.inl rfl) (nb rfl) ?_;cbv
 cases hb1:x1
 ·rw[aa hb1] at h;cbv;iterate 4 try(rw[hb1];cbv)
  obtain rfl:=Option.some.inj h;exact ARet.mk trivial hX.symm
 rw[ab hb1] at h;cbv;iterate 2 try(rw[hb1];cbv)
 obtain⟨x2,hx2,h⟩:=am h;try dsimp only at h
 refine ACall.mk _ _ rfl (hF _ _ _ (ce hg ht hx2)) (.inl rfl) (nb rfl) ?_;cbv;iterate 2 try(rw[hb1];cbv)
 cases hb2:x2
 ·rw[aa hb2] at h;cbv;iterate 4 try(rw[hb2];cbv)
  obtain rfl:=Option.some.inj h;exact ARet.mk trivial hX.symm
 rw[ab hb2] at h;cbv;iterate 2 try(rw[hb2];cbv)
 obtain⟨x3,hx3,h⟩:=am h;try dsimp only at h
 refine ACall.mk _ _ rfl (hF _ _ _ (ce hg ht hx3)) (.inl rfl) (nb rfl) ?_;cbv;iterate 2 try(rw[hb2];cbv)
 cases hb3:x3
 ·rw[aa hb3] at h;cbv;obtain rfl:=Option.some.inj h;exact ARet.mk trivial hX.symm
 rw[ab hb3] at h;cbv
 cases hb4:(eq a1_Kind 1)
 rotate_left
 ·rw[ab hb4] at h;cbv;try(rw[hb4];cbv)
  obtain⟨x4,hx4,h⟩:=ai h;try dsimp only at h
  refine ACall.mk _ _ rfl (hF _ _ _ (ir hg ht hx4)) (.inl rfl) (nb rfl) ?_;cbv;refine AStep.mk (nf ht (an hg ht _)) ?_;cbv;obtain⟨x5,hx5,h⟩:=am h;try dsimp only at h
  refine ACall.mk _ _ (by rw[show rd (d_S x4) 0 (dlen (d_S x4))=r_S x4 from pO hg ht (an hg ht _)];try rfl) (hF _ _ _ (i7 hg ht hx5)) (.inr rfl) (nb rfl) ?_
  cbv
  cases hb5:(le 0 x5)
  rotate_left
  ·rw[ab hb5] at h;cbv;iterate 4 try(rw[hb5];cbv)
   obtain rfl:=Option.some.inj h;exact ARet.mk trivial hX.symm
  rw[aa hb5] at h;cbv;iterate 4 try(rw[hb5];cbv)
  obtain rfl:=Option.some.inj h;exact ARet.mk trivial hX.symm
 rw[aa hb4] at h;cbv
 cases hb6:(eq a1_Kind 4)
 rotate_left
 ·rw[ab hb6] at h;cbv;obtain⟨x6,hx6,h⟩:=ai h;try dsimp only at h
  refine ACall.mk _ _ rfl (hF _ _ _ (ir hg ht hx6)) (.inl rfl) (nb rfl) ?_;cbv;refine AStep.mk (nf ht (an hg ht _)) ?_;cbv;obtain⟨x7,hx7,h⟩:=am h;try dsimp only at h
  refine ACall.mk _ _ (by rw[show rd (d_S x6) 0 (dlen (d_S x6))=r_S x6 from pO hg ht (an hg ht _)];try rfl) (hF _ _ _ (i7 hg ht hx7)) (.inr rfl) (nb rfl) ?_
  cbv
  cases hb7:(le 0 x7)
  rotate_left
  ·rw[ab hb7] at h;cbv;iterate 4 try(rw[hb7];cbv)
   obtain rfl:=Option.some.inj h;exact ARet.mk trivial hX.symm
  rw[aa hb7] at h;cbv;iterate 4 try(rw[hb7];cbv)
  obtain rfl:=Option.some.inj h;exact ARet.mk trivial hX.symm
 rw[aa hb6] at h;cbv
 cases hb8:(eq a1_Kind 3)
 rotate_left
 ·rw[ab hb8] at h;cbv
  cases hb9:(seq a1_Place s_k0)
  ·rw[aa hb9] at h;cbv;iterate 4 try(rw[hb9];cbv)
   obtain rfl:=Option.some.inj h;exact ARet.mk trivial hX.symm
  rw[ab hb9] at h;cbv;iterate 3 try(rw[hb9];cbv)
  obtain⟨x8,hx8,h⟩:=ai h;try dsimp only at h
  refine ACall.mk _ _ rfl (hF _ _ _ (lq hg ht hx8)) (.inl rfl) (nb rfl) ?_;cbv;try(rw[hb9];cbv)
  cases hb10:x8
  ·rw[aa hb10] at h;cbv;iterate 7 try(rw[hb10];cbv)
   obtain rfl:=Option.some.inj h;exact ARet.mk trivial hX.symm
  rw[ab hb10] at h;cbv;iterate 5 try(rw[hb10];cbv)
  obtain⟨x9,hx9,h⟩:=ai h;try dsimp only at h
  refine ACall.mk _ _ rfl (hF _ _ _ (ip hg ht hx9)) (.inl rfl) (nb rfl) ?_;cbv;iterate 2 try(rw[hb10];cbv)
  obtain rfl:=Option.some.inj h;exact ARet.mk trivial hX.symm
 rw[aa hb8] at h;cbv
 cases hb11:(eq a1_Kind 2)
 ·rw[aa hb11] at h;cbv;obtain rfl:=Option.some.inj h;exact ARet.mk trivial hX.symm
 rw[ab hb11] at h;cbv
 cases hb12:(seq a1_Place s_k0)
 ·rw[aa hb12] at h;cbv;iterate 4 try(rw[hb12];cbv)
  obtain rfl:=Option.some.inj h;exact ARet.mk trivial hX.symm
 rw[ab hb12] at h;cbv;iterate 3 try(rw[hb12];cbv)
 obtain⟨x10,hx10,h⟩:=ai h;try dsimp only at h
 refine ACall.mk _ _ rfl (hF _ _ _ (lq hg ht hx10)) (.inl rfl) (nb rfl) ?_;cbv;try(rw[hb12];cbv)
 cases hb13:x10
 ·rw[aa hb13] at h;cbv;iterate 7 try(rw[hb13];cbv)
  obtain rfl:=Option.some.inj h;exact ARet.mk trivial hX.symm
 rw[ab hb13] at h;cbv;iterate 5 try(rw[hb13];cbv)
 obtain⟨x11,hx11,h⟩:=ai h;try dsimp only at h
 refine ACall.mk _ _ rfl (hF _ _ _ (pw hg ht hx11)) (.inl rfl) (nb rfl) ?_;cbv;iterate 2 try(rw[hb13];cbv)
 obtain rfl:=Option.some.inj h;exact ARet.mk trivial hX.symm
def ir51 (s_k0 s_k12 s_k13 s_k14 s_k15:ByteArray):J:=js [jq 2 (.mv (.k (.c (.r (.v (.string s_k0))))))] [0] (.seq (js [jm 3 0] [3] (.block 0 (js [jb 5 .eql .i 3 (ki 1),jm 4 5] [3,4] (.cond 4 (js [jq 2 (.mv (.k (.c (.r (.v (.string s_k12))))))] [2] .ret) (js [jb 7 .eql .i 3 (ki 3),jm 6 7] [3,6] (.cond 6 (js [jq 2 (.mv (.k (.c (.r (.v (.string s_k14))))))] [2] .ret) (js [jb 9 .eql .i 3 (ki 2),jm 8 9] [8] (.cond 8 (js [jq 2 (.mv (.k (.c (.r (.v (.string s_k13))))))] [2] .ret) .skip)))))))) (js [jq 2 (.mv (.k (.c (.r (.v (.string s_k15))))))] [2] .ret))
def rv51:List RV:=[.t 2]
def fH (g:G) (t:TE) (a0:Int):ByteArray:=
 br (g.eq a0 1)
 (
  gc)
 (
  br (g.eq a0 3)
  (
   gl)
  (
   br (g.eq a0 2)
   (
    ge)
   (
    gi)))
theorem o6 {g:G} {t:TE} {a0:Int} {r:ByteArray} (hg:g=G.real) (ht:t=TE.real) (h:fH g t a0=r):Fn Tryz.prog 51 [.c (.v (.int .i64 a0))] (.c (.r (.v (.string r)))):=by
 obtain⟨X,hX⟩:=bg (.c (.r (.v (.string r))):X);rw[←hX];refine aD (rvs:=rv51) (j:=(ir51 str_k0 gc ge gl gi)) Tryz.func51 rfl (by kernel_rfl) (nb rfl) (by kernel_rfl) ae ?_;intro g2 F hg2 hF;obtain rfl:g2=g:=hg2.unique.trans hg.symm;clear hg2;obtain⟨_,_,_,eq⟩:=g2;obtain⟨_⟩:=t
 unfold fH at h;try dsimp only at h
 obtain⟨s_k0,hs_k0⟩:∃s,str_k0=s:=⟨_,rfl⟩;try rw[hs_k0] at h
 rw[hs_k0];obtain⟨s_k12,hs_k12⟩:∃s,gc=s:=⟨_,rfl⟩;try rw[hs_k12] at h
 rw[hs_k12];obtain⟨s_k13,hs_k13⟩:∃s,ge=s:=⟨_,rfl⟩;try rw[hs_k13] at h
 rw[hs_k13];obtain⟨s_k14,hs_k14⟩:∃s,gl=s:=⟨_,rfl⟩;try rw[hs_k14] at h
 rw[hs_k14];obtain⟨s_k15,hs_k15⟩:∃s,gi=s:=⟨_,rfl⟩;try rw[hs_k15] at h
 rw[hs_k15];cbv
 cases hb1:(eq a0 1)
 rotate_left
 ·rw[ab hb1] at h;cbv;subst h;exact ARet.mk trivial hX.symm
 rw[aa hb1] at h;cbv
 cases hb2:(eq a0 3)
 rotate_left
 ·rw[ab hb2] at h;cbv;subst h;exact ARet.mk trivial hX.symm
 rw[aa hb2] at h;cbv
 cases hb3:(eq a0 2)
 rotate_left
 ·rw[ab hb3] at h;cbv;subst h;exact ARet.mk trivial hX.symm
 rw[aa hb3] at h;cbv;subst h;exact ARet.mk trivial hX.symm
def ir58 (s_k0 s_k17 s_k9:ByteArray):J:=js [jq 2 (.mv (.k (.c (.r (.v (.string s_k0))))))] [0] (.seq (js [jm 6 0,jb 7 .eql .i 6 (ki 0)] [0,7] (.cond 7 (js [jq 2 (.mv (.k (.c (.r (.v (.string s_k9))))))] [2] .ret) .skip)) (js [jq 3 (.mv (.k (.c (.r (.v (.string s_k0))))))] [0,3] (.seq (js [jm 8 0,jm 4 8] [0,3,4] (.bl 0 (.seq (js [jm 9 4,jb 10 .neq .i 9 (ki 0)] [0,3,4,10] (.cond 10 .skip (.exit 0))) (.seq (.block 1 (js [jm 13 4,jb 14 .rem .i 13 (ki 10),jm 5 14] [0,3,4,5] (.seq (js [jm 15 5,jb 16 .lss .i 15 (ki 0)] [0,3,4,5,16] (.cond 16 (.reg none [jm 17 5,jq 18 (.neg 17),jm 5 18] [0,3,4,5]) .skip)) (.reg none [jm 19 5,jb 20 .add .i (ki 48) 19,jq 21 (.cvt .u8 20),jq 22 (.bsl 1 [21]),jq 23 (.b2s 22),jm 24 3,jb 25 .add .s 23 24,jm 3 25] [0,3,4])))) (.reg none [jm 11 4,jb 12 .quo .i 11 (ki 10),jm 4 12] [0,3,4]))))) (.seq (js [jm 26 0,jb 27 .lss .i 26 (ki 0)] [3,27] (.cond 27 (js [jm 28 3,jq 29 (.bin .add .s (.k (.c (.r (.v (.string s_k17))))) 28),jm 2 29] [2] .ret) .skip)) (js [jm 30 3,jm 2 30] [2] .ret)))))
def rv58:List RV:=[.t 2]
def aJ (g:G) (t:TE):Nat→ByteArray→Int→Option ByteArray
 |0,_,_=>none
 |n1+1,v1,v2=>
  br (g.eq v2 0)
  (
   some v1)
  (
   br (g.lt (g.rem v2 10) 0)
   (
    lP ([(g.wrap .u8 (g.wrap .i64 (g.add 48 (g.wrap .i64 (g.sub 0 (g.rem v2 10))))))]) fun(l1:List Int)=>
    gd (((g.bstr l1).size+v1.size≤70368744177664))<|
    aJ g t n1 (g.cat (g.bstr l1) v1) (g.wrap .i64 (g.quo v2 10)))
   (
    lP ([(g.wrap .u8 (g.wrap .i64 (g.add 48 (g.rem v2 10))))]) fun(l2:List Int)=>
    gd (((g.bstr l2).size+v1.size≤70368744177664))<|
    aJ g t n1 (g.cat (g.bstr l2) v1) (g.wrap .i64 (g.quo v2 10))))
def bB (g:G) (t:TE) (a0:Int):Option ByteArray:=
 br (g.eq a0 0)
 (
  some dv)
 (
  cl (aJ g t 1000000000 str_k0 a0) fun y1=>
  br (g.lt a0 0)
  (
   gd ((hO.size+y1.size≤70368744177664))<|
   some (g.cat hO y1))
  (
   some y1))
theorem cG {g:G} {t:TE} {a0:Int} {r:ByteArray} (hg:g=G.real) (ht:t=TE.real) (h:bB g t a0=some r):Fn Tryz.prog 58 [.c (.v (.int .i64 a0))] (.c (.r (.v (.string r)))):=by
 obtain⟨X,hX⟩:=bg (.c (.r (.v (.string r))):X);rw[←hX];refine aD (rvs:=rv58) (j:=(ir58 str_k0 hO dv)) Tryz.func58 rfl (by kernel_rfl) (nb rfl) (by kernel_rfl) ae ?_;intro g2 F hg2 hF;obtain rfl:g2=g:=hg2.unique.trans hg.symm;clear hg2;obtain⟨wrap,lt,_,eq,quo,rem,_,_,_,_,_,_,_,add,sub,_,cat,_,_,_,_,_,_,_,dlen,_,_,_,rd,_,_,_,_,_,_,_,_,_,_,_,_,_,_,bstr⟩:=g2;obtain⟨r_U8,d_U8⟩:=t;unfold bB at h
 try dsimp only at h
 obtain⟨s_k0,hs_k0⟩:∃s,str_k0=s:=⟨_,rfl⟩;try rw[hs_k0] at h
 rw[hs_k0];obtain⟨s_k17,hs_k17⟩:∃s,hO=s:=⟨_,rfl⟩;try rw[hs_k17] at h
 rw[hs_k17];obtain⟨s_k9,hs_k9⟩:∃s,dv=s:=⟨_,rfl⟩;try rw[hs_k9] at h
 rw[hs_k9];cbv
 cases hb1:(eq a0 0)
 rotate_left
 ·rw[ab hb1] at h;cbv;obtain rfl:=Option.some.inj h;exact ARet.mk trivial hX.symm
 rw[aa hb1] at h;cbv;obtain⟨o1,ho1,h⟩:=ai h;try dsimp only at h
 try rw[hg] at ho1
 try rw[ht] at ho1
 refine ABL.mk {p:Nat×ByteArray×Int//aJ G.real TE.real p.1 p.2.1 p.2.2=some o1} (fun⟨⟨n1,v1,v2⟩,_⟩=>({sl:=[(0,.c (.r (.v (.int .i64 a0)))),(3,.c (.r (.v (.string v1)))),(4,.c (.r (.v (.int .i64 v2))))],tab:=[]}:St)) 0 (fun p=>p.1.1) ⟨(1000000000,s_k0,a0),ho1⟩ (ByteArray) (fun y1=>({sl:=[(0,.c (.r (.v (.int .i64 a0)))),(3,.c (.r (.v (.string y1))))],tab:=[]}:St)) 0 (fun y=>o1=y) ?_ ?_ ?_
 ·refine Wk.of [] rfl rfl ?_ ?_
  ·cbv;all_goals exact⟨⟨_,rfl,rfl⟩,⟨_,rfl,rfl⟩,⟨_,rfl,rfl⟩,trivial⟩
  cbv;all_goals exact trivial
 ·rintro⟨⟨n1,v1,v2⟩,h_1⟩ hq1;try dsimp only at h_1
  clear hq1;rcases n1 with _|n1
  ·rw[aJ] at h_1;cases h_1
  rw[aJ] at h_1;try rw[←hg] at h_1
  try rw[←ht] at h_1
  try dsimp only at h_1
  try rw[hs_k0] at h_1
  try rw[hs_k17] at h_1
  try rw[hs_k9] at h_1
  cbv
  cases hb2:(eq v2 0)
  rotate_left
  ·rw[ab hb2] at h_1;cbv;refine⟨v1,Wk.of [] rfl rfl ?_ ?_,(Option.some.inj h_1).symm⟩
   ·cbv;all_goals exact⟨⟨_,rfl,rfl⟩,⟨_,rfl,rfl⟩,trivial⟩
   cbv;all_goals exact trivial
  rw[aa hb2] at h_1;cbv;refine AStep.mk (by decide) ?_;cbv
  cases hb3:(lt (rem v2 10) 0)
  ·rw[aa hb3] at h_1;cbv;obtain⟨l2,hl2,h_1⟩:=am h_1;try dsimp only at h_1
   refine ANew.mk (d_U8 l2) (dlen (d_U8 l2)) (by rw[←hl2];exact th hg ht [(wrap .u8 (wrap .i64 (add 48 (rem v2 10))))]) (by rw[←hl2];exact pR hg ht [(wrap .u8 (wrap .i64 (add 48 (rem v2 10))))]) ?_;cbv;refine AStep.mk (pN ht (jR hg ht _)) ?_;cbv;refine AB2.mk l2 (by rw[show rd (d_U8 l2) 0 (dlen (d_U8 l2))=r_U8 l2 from sk hg ht (jR hg ht _)];exact tE ht _) ?_;cbv;obtain⟨hc2,h_1⟩:=ah h_1;refine AStep.mk (ax hc2) ?_;cbv;refine AStep.mk (by decide) ?_;cbv;try rw[hg] at h_1
   try rw[ht] at h_1
   refine⟨⟨(n1,(cat (bstr l2) v1),(wrap .i64 (quo v2 10))),h_1⟩,Wk.of [] rfl rfl ?_ ?_,Nat.lt_succ_self _⟩
   ·cbv;all_goals exact⟨⟨_,rfl,rfl⟩,⟨_,rfl,rfl⟩,⟨_,rfl,rfl⟩,trivial⟩
   cbv;all_goals exact trivial
  rw[ab hb3] at h_1;cbv;obtain⟨l1,hl1,h_1⟩:=am h_1;try dsimp only at h_1
  refine ANew.mk (d_U8 l1) (dlen (d_U8 l1)) (by rw[←hl1];exact th hg ht [(wrap .u8 (wrap .i64 (add 48 (wrap .i64 (sub 0 (rem v2 10))))))]) (by rw[←hl1];exact pR hg ht [(wrap .u8 (wrap .i64 (add 48 (wrap .i64 (sub 0 (rem v2 10))))))]) ?_;cbv;refine AStep.mk (pN ht (jR hg ht _)) ?_;cbv;refine AB2.mk l1 (by rw[show rd (d_U8 l1) 0 (dlen (d_U8 l1))=r_U8 l1 from sk hg ht (jR hg ht _)];exact tE ht _) ?_;cbv;obtain⟨hc1,h_1⟩:=ah h_1;refine AStep.mk (ax hc1) ?_;cbv;refine AStep.mk (by decide) ?_;cbv;try rw[hg] at h_1
  try rw[ht] at h_1
  refine⟨⟨(n1,(cat (bstr l1) v1),(wrap .i64 (quo v2 10))),h_1⟩,Wk.of [] rfl rfl ?_ ?_,Nat.lt_succ_self _⟩
  ·cbv;all_goals exact⟨⟨_,rfl,rfl⟩,⟨_,rfl,rfl⟩,⟨_,rfl,rfl⟩,trivial⟩
  cbv;all_goals exact trivial
 rintro y1 hy1;replace hy1:=hy1.symm;subst hy1;try dsimp only[lr,lrL,lrp,bQ] at h
 cbv
 cases hb4:(lt a0 0)
 ·rw[aa hb4] at h;cbv;obtain rfl:=Option.some.inj h;exact ARet.mk trivial hX.symm
 rw[ab hb4] at h;cbv;obtain⟨hc3,h⟩:=ah h;refine AStep.mk (ax hc3) ?_;cbv;obtain rfl:=Option.some.inj h;exact ARet.mk trivial hX.symm
def vT (s_k0 s_k9:ByteArray):J:=js [jq 4 (.mv (.k (.c (.r (.v (.string s_k0))))))] [0,1] (js [jm 6 0,jc 7 58 [6],jm 5 7] [1,5] (.seq (.bl 0 (.seq (js [jm 8 5,jq 9 (.len true 8),jm 10 1,jb 11 .lss .i 9 10] [1,5,11] (.cond 11 .skip (.exit 0))) (.block 1 (.reg none [jm 12 5,jq 13 (.bin .add .s (.k (.c (.r (.v (.string s_k9))))) 12),jm 5 13] [1,5])))) (js [jm 14 5,jm 4 14] [4] .ret)))
def wh:List RV:=[.t 4]
def bn (g:G) (t:TE) (a1:Int):Nat→ByteArray→Option ByteArray
 |0,_=>none
 |n1+1,v1=>
  br (g.lt (g.int (g.slen v1)) a1)
  (
   gd ((dv.size+v1.size≤70368744177664))<|
   bn g t a1 n1 (g.cat dv v1))
  (
   some v1)
def df (g:G) (t:TE) (a0:Int) (a1:Int):Option ByteArray:=
 cl (bB g t a0) fun x1=>
 cl (bn g t a1 1000000000 x1) fun y1=>
 some y1
theorem ie {g:G} {t:TE} {a0:Int} {a1:Int} {r:ByteArray} (hg:g=G.real) (ht:t=TE.real) (h:df g t a0 a1=some r):Fn Tryz.prog 100 [.c (.v (.int .i64 a0)),.c (.v (.int .i64 a1))] (.c (.r (.v (.string r)))):=by
 obtain⟨X,hX⟩:=bg (.c (.r (.v (.string r))):X);rw[←hX];refine aD (rvs:=wh) (j:=(vT str_k0 dv)) Tryz.func100 rfl (by kernel_rfl) (nb rfl) (by kernel_rfl) ae ?_;intro g2 F hg2 hF;obtain rfl:g2=g:=hg2.unique.trans hg.symm;clear hg2;obtain⟨_,lt,_,_,_,_,_,_,_,_,_,_,int,_,_,_,cat,_,_,_,_,_,_,_,_,_,_,_,_,_,_,_,_,_,_,slen⟩:=g2;obtain⟨_⟩:=t;unfold df at h
 try dsimp only at h
 obtain⟨s_k0,hs_k0⟩:∃s,str_k0=s:=⟨_,rfl⟩;try rw[hs_k0] at h
 rw[hs_k0];obtain⟨s_k9,hs_k9⟩:∃s,dv=s:=⟨_,rfl⟩;try rw[hs_k9] at h
 rw[hs_k9];cbv;obtain⟨x1,hx1,h⟩:=ai h;try dsimp only at h
 refine ACall.mk _ _ rfl (hF _ _ _ (cG hg ht hx1)) (.inl rfl) (nb rfl) ?_;cbv;obtain⟨o1,ho1,h⟩:=ai h;try dsimp only at h
 try rw[hg] at ho1
 try rw[ht] at ho1
 refine ABL.mk {p:Nat×ByteArray//bn G.real TE.real a1 p.1 p.2=some o1} (fun⟨⟨n1,v1⟩,_⟩=>({sl:=[(1,.c (.r (.v (.int .i64 a1)))),(5,.c (.r (.v (.string v1))))],tab:=[]}:St)) 0 (fun p=>p.1.1) ⟨(1000000000,x1),ho1⟩ (ByteArray) (fun y1=>({sl:=[(5,.c (.r (.v (.string y1))))],tab:=[]}:St)) 0 (fun y=>o1=y) ?_ ?_ ?_
 ·refine Wk.of [] rfl rfl ?_ ?_
  ·cbv;all_goals exact⟨⟨_,rfl,rfl⟩,⟨_,rfl,rfl⟩,trivial⟩
  cbv;all_goals exact trivial
 ·rintro⟨⟨n1,v1⟩,h_1⟩ hq1;try dsimp only at h_1
  clear hq1;rcases n1 with _|n1
  ·rw[bn] at h_1;cases h_1
  rw[bn] at h_1;try rw[←hg] at h_1
  try rw[←ht] at h_1
  try dsimp only at h_1
  try rw[hs_k0] at h_1
  try rw[hs_k9] at h_1
  cbv
  cases hb1:(lt (int (slen v1)) a1)
  ·rw[aa hb1] at h_1;cbv;refine⟨v1,Wk.of [] rfl rfl ?_ ?_,(Option.some.inj h_1).symm⟩
   ·cbv;all_goals exact⟨⟨_,rfl,rfl⟩,trivial⟩
   cbv;all_goals exact trivial
  rw[ab hb1] at h_1;cbv;obtain⟨hc1,h_1⟩:=ah h_1;refine AStep.mk (ax hc1) ?_;cbv;try rw[hg] at h_1
  try rw[ht] at h_1
  refine⟨⟨(n1,(cat s_k9 v1)),h_1⟩,Wk.of [] rfl rfl ?_ ?_,Nat.lt_succ_self _⟩
  ·cbv;all_goals exact⟨⟨_,rfl,rfl⟩,⟨_,rfl,rfl⟩,trivial⟩
  cbv;all_goals exact trivial
 rintro y1 hy1;replace hy1:=hy1.symm;subst hy1;try dsimp only[lr,lrL,lrp,bQ] at h
 cbv;obtain rfl:=Option.some.inj h;exact ARet.mk trivial hX.symm
def ir78 (s_k0 s_k10:ByteArray):J:=js [jq 2 (.mv (.k (.c (.r (.v (.string s_k0))))))] [0] (js [jm 3 0,jb 4 .quo .i 3 (ki 60),jc 5 100 [4,(ki 2)],jq 6 (.bin .add .s 5 (.k (.c (.r (.v (.string s_k10)))))),jm 7 0,jb 8 .rem .i 7 (ki 60),jc 9 100 [8,(ki 2)],jb 10 .add .s 6 9,jm 2 10] [2] .ret)
def rv78:List RV:=[.t 2]
def eJ (g:G) (t:TE) (a0:Int):Option ByteArray:=
 cl (df g t (g.wrap .i64 (g.quo a0 60)) 2) fun x1=>
 gd ((x1.size+cI.size≤70368744177664))<|
 cl (df g t (g.rem a0 60) 2) fun x2=>
 gd (((g.cat x1 cI).size+x2.size≤70368744177664))<|
 some (g.cat (g.cat x1 cI) x2)
theorem nG {g:G} {t:TE} {a0:Int} {r:ByteArray} (hg:g=G.real) (ht:t=TE.real) (h:eJ g t a0=some r):Fn Tryz.prog 78 [.c (.v (.int .i64 a0))] (.c (.r (.v (.string r)))):=by
 obtain⟨X,hX⟩:=bg (.c (.r (.v (.string r))):X);rw[←hX];refine aD (rvs:=rv78) (j:=(ir78 str_k0 cI)) Tryz.func78 rfl (by kernel_rfl) (nb rfl) (by kernel_rfl) ae ?_;intro g2 F hg2 hF;obtain rfl:g2=g:=hg2.unique.trans hg.symm;clear hg2;obtain⟨_⟩:=g2;obtain⟨_⟩:=t;unfold eJ at h
 try dsimp only at h
 obtain⟨s_k0,hs_k0⟩:∃s,str_k0=s:=⟨_,rfl⟩;try rw[hs_k0] at h
 rw[hs_k0];obtain⟨s_k10,hs_k10⟩:∃s,cI=s:=⟨_,rfl⟩;try rw[hs_k10] at h
 rw[hs_k10];cbv;refine AStep.mk (by decide) ?_;cbv;obtain⟨x1,hx1,h⟩:=ai h;try dsimp only at h
 refine ACall.mk _ _ rfl (hF _ _ _ (ie hg ht hx1)) (.inl rfl) (nb rfl) ?_;cbv;obtain⟨hc1,h⟩:=ah h;refine AStep.mk (ax hc1) ?_;cbv;refine AStep.mk (by decide) ?_;cbv;obtain⟨x2,hx2,h⟩:=ai h;try dsimp only at h
 refine ACall.mk _ _ rfl (hF _ _ _ (ie hg ht hx2)) (.inl rfl) (nb rfl) ?_;cbv;obtain⟨hc2,h⟩:=ah h;refine AStep.mk (ax hc2) ?_;cbv;obtain rfl:=Option.some.inj h;exact ARet.mk trivial hX.symm
def ir57 (s_k0 s_k11:ByteArray):J:=js [jq 2 (.mv (.k (.c (.r (.v (.string s_k0))))))] [0] (.seq (js [jm 3 0,jc 4 41 [3,(ki 0),(ki 100000)],jq 5 (.not 4)] [0,5] (.cond 5 (js [jq 2 (.mv (.k (.c (.r (.v (.string s_k0))))))] [2] .ret) .skip)) (js [jm 6 0,jb 7 .quo .i 6 (ki 1440),jc 8 58 [7],jq 9 (.bin .add .s 8 (.k (.c (.r (.v (.string s_k11)))))),jm 10 0,jb 11 .rem .i 10 (ki 1440),jc 12 78 [11],jb 13 .add .s 9 12,jm 2 13] [2] .ret))
def rv57:List RV:=[.t 2]
def c7 (g:G) (t:TE) (a0:Int):Option ByteArray:=
 lP (cE g t a0 0 100000) fun x1=>
 br x1
 (
  cl (bB g t (g.wrap .i64 (g.quo a0 1440))) fun x2=>
  gd ((x2.size+ac.size≤70368744177664))<|
  cl (eJ g t (g.rem a0 1440)) fun x3=>
  gd (((g.cat x2 ac).size+x3.size≤70368744177664))<|
  some (g.cat (g.cat x2 ac) x3))
 (
  some str_k0)
theorem kP {g:G} {t:TE} {a0:Int} {r:ByteArray} (hg:g=G.real) (ht:t=TE.real) (h:c7 g t a0=some r):Fn Tryz.prog 57 [.c (.v (.int .i64 a0))] (.c (.r (.v (.string r)))):=by
 obtain⟨X,hX⟩:=bg (.c (.r (.v (.string r))):X);rw[←hX];refine aD (rvs:=rv57) (j:=(ir57 str_k0 ac)) Tryz.func57 rfl (by kernel_rfl) (nb rfl) (by kernel_rfl) ae ?_;intro g2 F hg2 hF;obtain rfl:g2=g:=hg2.unique.trans hg.symm;clear hg2;obtain⟨_⟩:=g2;obtain⟨_⟩:=t;unfold c7 at h
 try dsimp only at h
 obtain⟨s_k0,hs_k0⟩:∃s,str_k0=s:=⟨_,rfl⟩;try rw[hs_k0] at h
 rw[hs_k0];obtain⟨s_k11,hs_k11⟩:∃s,ac=s:=⟨_,rfl⟩;try rw[hs_k11] at h
 rw[hs_k11];cbv;obtain⟨x1,hx1,h⟩:=am h;try dsimp only at h
 refine ACall.mk _ _ rfl (hF _ _ _ (ce hg ht hx1)) (.inl rfl) (nb rfl) ?_;cbv
 cases hb1:x1
 ·rw[aa hb1] at h;cbv;obtain rfl:=Option.some.inj h;exact ARet.mk trivial hX.symm
 rw[ab hb1] at h;cbv;refine AStep.mk (by decide) ?_;cbv;obtain⟨x2,hx2,h⟩:=ai h;try dsimp only at h
 refine ACall.mk _ _ rfl (hF _ _ _ (cG hg ht hx2)) (.inl rfl) (nb rfl) ?_;cbv;obtain⟨hc1,h⟩:=ah h;refine AStep.mk (ax hc1) ?_;cbv;refine AStep.mk (by decide) ?_;cbv;obtain⟨x3,hx3,h⟩:=ai h;try dsimp only at h
 refine ACall.mk _ _ rfl (hF _ _ _ (nG hg ht hx3)) (.inl rfl) (nb rfl) ?_;cbv;obtain⟨hc2,h⟩:=ah h;refine AStep.mk (ax hc2) ?_;cbv;obtain rfl:=Option.some.inj h;exact ARet.mk trivial hX.symm
def ir23 (s_k0 s_k11 s_k16:ByteArray):J:=js [jq 2 (.box 0),jq 3 (.box 1),jq 4 (.mv (.k (.c (.r (.v (.string s_k0))))))] [2,3] (.seq (js [jl 6 3 2,jl 7 6 3,jc 8 11 [6,7],jq 9 (.not 8)] [3,9] (.cond 9 (js [jq 4 (.mv (.k (.c (.r (.v (.string s_k0))))))] [4] .ret) .skip)) (.seq (.reg (some [[],[0],[0,1],[0,1,2],[],[4],[0,1,2,4,5],[0,1,2,3,4,5,6],[0,1,2,3,4,5,6,7],[],[9],[0,1,2,4,5,6,9,10],[0,1,2,3,4,5,6,7,8,9,10,11],[0,1,2,3,4,5,6,7,8,9,10,11,12],[0,1,2,3,4,5,6,7,8,9,10,11,12,13]]) [jf 10 1 3,jk 11 10,jc 12 57 [11],jq 13 (.bin .add .s 12 (.k (.c (.r (.v (.string s_k11)))))),jf 14 0 3,jk 15 14,jc 16 58 [15],jb 17 .add .s 13 16,jq 18 (.bin .add .s 17 (.k (.c (.r (.v (.string s_k11)))))),jf 19 2 3,jk 20 19,jc 21 51 [20],jb 22 .add .s 18 21,jq 23 (.bin .add .s 22 (.k (.c (.r (.v (.string s_k11)))))),jm 5 23] [3,5]) (.seq (js [jf 24 3 3,jk 25 24,jq 26 (.bin .neq .s 25 (.k (.c (.r (.v (.string s_k0))))))] [3,5,26] (.cond 26 (js [jm 27 5,jf 28 3 3,jk 29 28,jb 30 .add .s 27 29,jm 4 30] [4] .ret) .skip)) (.seq (.reg (some [[],[],[1],[1,2],[1,2,3],[0,1,2,3,4],[0,1,2,3,4,5],[],[7],[7,8],[1,2,3,4,7,8,9],[0,1,2,3,4,5,6,7,8,9,10],[0,1,2,3,4,5,6,7,8,9,10,11]]) [jm 31 5,jf 32 4 3,jf 33 0 32,jk 34 33,jc 35 58 [34],jb 36 .add .s 31 35,jq 37 (.bin .add .s 36 (.k (.c (.r (.v (.string s_k16)))))),jf 38 4 3,jf 39 1 38,jk 40 39,jc 41 58 [40],jb 42 .add .s 37 41,jm 4 42] [4]) .ret))))
def rv23:List RV:=[.t 4]
def cY (g:G) (t:TE) (a0:Network) (a1:Scan):Option ByteArray:=
 cl (fQ g t a0 (Scan.mk a1.Thing a1.At a1.Kind a1.Place (Trip.mk a1.Trip.Leg a1.Trip.Day))) fun x1=>
 br x1
 (
  cl (c7 g t a1.At) fun x2=>
  gd ((x2.size+ac.size≤70368744177664))<|
  cl (bB g t a1.Thing) fun x3=>
  gd (((g.cat x2 ac).size+x3.size≤70368744177664))<|
  gd (((g.cat (g.cat x2 ac) x3).size+ac.size≤70368744177664))<|
  lP (fH g t a1.Kind) fun x4=>
  gd (((g.cat (g.cat (g.cat x2 ac) x3) ac).size+x4.size≤70368744177664))<|
  gd (((g.cat (g.cat (g.cat (g.cat x2 ac) x3) ac) x4).size+ac.size≤70368744177664))<|
  br (g.seq a1.Place str_k0)
  (
   cl (bB g t a1.Trip.Leg) fun x5=>
   gd (((g.cat (g.cat (g.cat (g.cat (g.cat x2 ac) x3) ac) x4) ac).size+x5.size≤70368744177664))<|
   gd (((g.cat (g.cat (g.cat (g.cat (g.cat (g.cat x2 ac) x3) ac) x4) ac) x5).size+bv.size≤70368744177664))<|
   cl (bB g t a1.Trip.Day) fun x6=>
   gd (((g.cat (g.cat (g.cat (g.cat (g.cat (g.cat (g.cat x2 ac) x3) ac) x4) ac) x5) bv).size+x6.size≤70368744177664))<|
   some (g.cat (g.cat (g.cat (g.cat (g.cat (g.cat (g.cat (g.cat x2 ac) x3) ac) x4) ac) x5) bv) x6))
  (
   gd (((g.cat (g.cat (g.cat (g.cat (g.cat x2 ac) x3) ac) x4) ac).size+a1.Place.size≤70368744177664))<|
   some (g.cat (g.cat (g.cat (g.cat (g.cat (g.cat x2 ac) x3) ac) x4) ac) a1.Place)))
 (
  some str_k0)
theorem jY {g:G} {t:TE} {a0:Network} {a1:Scan} {r:ByteArray} (hg:g=G.real) (ht:t=TE.real) (h:cY g t a0 a1=some r):Fn Tryz.prog 23 [.g (Network.rs t a0),.g (Scan.rs t a1)] (.c (.r (.v (.string r)))):=by
 obtain⟨X,hX⟩:=bg (.c (.r (.v (.string r))):X);rw[←hX];refine aD (rvs:=rv23) (j:=(ir23 str_k0 ac bv)) Tryz.func23 rfl (by kernel_rfl) (nb rfl) (by kernel_rfl) ae ?_;intro g2 F hg2 hF;obtain rfl:g2=g:=hg2.unique.trans hg.symm;clear hg2;obtain⟨_,_,_,_,_,_,_,_,_,_,_,_,_,_,_,_,_,seq⟩:=g2;obtain⟨_⟩:=t;obtain⟨a0_Legs,a0_Off,a0_Change⟩:=a0
 obtain⟨a1_Thing,a1_At,a1_Kind,a1_Place,⟨a1_Trip_Leg,a1_Trip_Day⟩⟩:=a1;unfold cY at h;try dsimp only at h
 obtain⟨s_k0,hs_k0⟩:∃s,str_k0=s:=⟨_,rfl⟩;try rw[hs_k0] at h
 rw[hs_k0];obtain⟨s_k11,hs_k11⟩:∃s,ac=s:=⟨_,rfl⟩;try rw[hs_k11] at h
 rw[hs_k11];obtain⟨s_k16,hs_k16⟩:∃s,bv=s:=⟨_,rfl⟩;try rw[hs_k16] at h
 rw[hs_k16];cbv;obtain⟨x1,hx1,h⟩:=ai h;try dsimp only at h
 refine ACall.mk _ _ rfl (hF _ _ _ (pf hg ht hx1)) (.inl rfl) (nb rfl) ?_;cbv
 cases hb1:x1
 ·rw[aa hb1] at h;cbv;obtain rfl:=Option.some.inj h;exact ARet.mk trivial hX.symm
 rw[ab hb1] at h;cbv;obtain⟨x2,hx2,h⟩:=ai h;try dsimp only at h
 refine ACall.mk _ _ rfl (hF _ _ _ (kP hg ht hx2)) (.inl rfl) (nb rfl) ?_;cbv;obtain⟨hc1,h⟩:=ah h;refine AStep.mk (ax hc1) ?_;cbv;obtain⟨x3,hx3,h⟩:=ai h;try dsimp only at h
 refine ACall.mk _ _ rfl (hF _ _ _ (cG hg ht hx3)) (.inl rfl) (nb rfl) ?_;cbv;obtain⟨hc2,h⟩:=ah h;refine AStep.mk (ax hc2) ?_;cbv;obtain⟨hc3,h⟩:=ah h;refine AStep.mk (ax hc3) ?_;cbv;obtain⟨x4,hx4,h⟩:=am h;try dsimp only at h
 refine ACall.mk _ _ rfl (hF _ _ _ (o6 hg ht hx4)) (.inl rfl) (nb rfl) ?_;cbv;obtain⟨hc4,h⟩:=ah h;refine AStep.mk (ax hc4) ?_;cbv;obtain⟨hc5,h⟩:=ah h;refine AStep.mk (ax hc5) ?_;cbv
 cases hb2:(seq a1_Place s_k0)
 ·rw[aa hb2] at h;cbv;obtain⟨hc9,h⟩:=ah h;refine AStep.mk (ax hc9) ?_;cbv;obtain rfl:=Option.some.inj h;exact ARet.mk trivial hX.symm
 rw[ab hb2] at h;cbv;obtain⟨x5,hx5,h⟩:=ai h;try dsimp only at h
 refine ACall.mk _ _ rfl (hF _ _ _ (cG hg ht hx5)) (.inl rfl) (nb rfl) ?_;cbv;obtain⟨hc6,h⟩:=ah h;refine AStep.mk (ax hc6) ?_;cbv;obtain⟨hc7,h⟩:=ah h;refine AStep.mk (ax hc7) ?_;cbv;obtain⟨x6,hx6,h⟩:=ai h;try dsimp only at h
 refine ACall.mk _ _ rfl (hF _ _ _ (cG hg ht hx6)) (.inl rfl) (nb rfl) ?_;cbv;obtain⟨hc8,h⟩:=ah h;refine AStep.mk (ax hc8) ?_;cbv;obtain rfl:=Option.some.inj h;exact ARet.mk trivial hX.symm
def ir59:J:=js [jq 1 (.box 0),jq 2 (.alloc [.r (.v (.int .i64 0)),.r (.v (.int .i64 0))])] [1,2] (js [jq 3 (.alloc [.r (.v (.int .i64 0)),.r (.v (.int .i64 0))])] [1,2,3] (js [jf 4 0 1,jk 5 4,jf 6 0 3,jp (.st 1 6 5)] [1,2,3] (js [jf 7 1 1,jk 8 7,jf 9 1 3,jp (.st 1 9 8)] [2,3] (js [jl 10 2 3,jp (.st 2 2 10)] [2] .ret))))
def rv59:List RV:=[.c 2 true 2]
def iu (g:G) (t:TE) (a0:Trip):Trip:=
 a0
theorem pF {g:G} {t:TE} {a0:Trip} {r:Trip} (hg:g=G.real) (ht:t=TE.real) (h:iu g t a0=r):Fn Tryz.prog 59 [.g (Trip.rs t a0)] (.g (Trip.ds t r)):=by
 obtain⟨X,hX⟩:=bg (.g (Trip.ds t r):X);rw[←hX];refine aD (rvs:=rv59) (j:=ir59) Tryz.func59 rfl (by kernel_rfl) (nb rfl) (by kernel_rfl) ae ?_;intro g2 F hg2 hF;obtain rfl:g2=g:=hg2.unique.trans hg.symm;clear hg2;obtain⟨_⟩:=g2;obtain⟨_⟩:=t;obtain⟨a0_Leg,a0_Day⟩:=a0;unfold iu at h
 try dsimp only at h
 cbv;subst h;exact ARet.mk trivial hX.symm
def ir24:J:=js [jq 1 (.box 0),jq 2 (.alloc [.r (.v (.int .i64 0)),.r (.v (.int .i64 0)),.r (.v (.int .i64 0)),.r (.v (.string .empty)),.r (.v (.int .i64 0)),.r (.v (.int .i64 0))])] [1,2] (js [jq 3 (.alloc [.r (.v (.int .i64 0)),.r (.v (.int .i64 0)),.r (.v (.int .i64 0)),.r (.v (.string .empty)),.r (.v (.int .i64 0)),.r (.v (.int .i64 0))])] [1,2,3] (js [jf 4 0 1,jk 5 4,jf 6 0 3,jp (.st 1 6 5)] [1,2,3] (js [jf 7 1 1,jk 8 7,jf 9 1 3,jp (.st 1 9 8)] [1,2,3] (js [jf 10 2 1,jk 11 10,jf 12 2 3,jp (.st 1 12 11)] [1,2,3] (js [jf 13 3 1,jk 14 13,jf 15 3 3,jp (.st 1 15 14)] [1,2,3] (js [jf 16 4 1,jl 17 2 16,jc 18 59 [17],jf 19 4 3,jp (.st 2 19 18)] [2,3] (js [jl 20 6 3,jp (.st 6 2 20)] [2] .ret)))))))
def rv24:List RV:=[.c 2 true 6]
def eI (g:G) (t:TE) (a0:Scan):Scan:=
 lP (iu g t (Trip.mk a0.Trip.Leg a0.Trip.Day)) fun x1=>
 (Scan.mk a0.Thing a0.At a0.Kind a0.Place x1)
theorem lw {g:G} {t:TE} {a0:Scan} {r:Scan} (hg:g=G.real) (ht:t=TE.real) (h:eI g t a0=r):Fn Tryz.prog 24 [.g (Scan.rs t a0)] (.g (Scan.ds t r)):=by
 obtain⟨X,hX⟩:=bg (.g (Scan.ds t r):X);rw[←hX];refine aD (rvs:=rv24) (j:=ir24) Tryz.func24 rfl (by kernel_rfl) (nb rfl) (by kernel_rfl) ae ?_;intro g2 F hg2 hF;obtain rfl:g2=g:=hg2.unique.trans hg.symm;clear hg2;obtain⟨_⟩:=g2;obtain⟨_⟩:=t;obtain⟨a0_Thing,a0_At,a0_Kind,a0_Place,⟨a0_Trip_Leg,a0_Trip_Day⟩⟩:=a0
 unfold eI at h;try dsimp only at h
 cbv;obtain⟨x1,hx1,h⟩:=am h;obtain⟨x1_Leg,x1_Day⟩:=x1;try dsimp only at h
 refine ACall.mk _ _ rfl (hF _ _ _ (pF hg ht hx1)) (.inl rfl) (nb rfl) ?_;cbv;subst h;exact ARet.mk trivial hX.symm
def ir5:J:=js [jq 2 (.box 0),jq 3 (.box 1),jm 4 kf] [2,3] (js [jm 5 (ki 1048576)] [2,3,5] (js [jl 9 3 2,jm 10 5,jc 11 17 [9,10],jm 5 11] [2,3,5] (.seq (js [jm 12 5,jb 13 .lss .i 12 (ki 0)] [2,3,5,13] (.cond 13 (js [jm 4 kt] [4] .ret) .skip)) (js [jl 14 6 3,jm 15 5,jc 16 22 [14,15],jm 5 16] [2,3,5] (.seq (js [jm 17 5,jb 18 .lss .i 17 (ki 0)] [2,3,18] (.cond 18 (js [jm 4 kt] [4] .ret) .skip)) (.seq (.reg (some [[],[0],[],[0,1,2],[0,1,2,3],[0,1,2,3,4]]) [jl 19 3 2,jq 20 (.call 19 false [19]),jl 21 6 3,jc 22 24 [21],jc 23 23 [20,22],jm 6 23] [2,3,6]) (js [jl 24 3 2,jq 25 (.call 19 false [24]),jq 7 (.alloc [.n 6,.n 1,.r (.v (.int .i64 0))]),jp (.st 3 7 25)] [2,3,6,7] (.seq (.reg (some [[],[],[1],[0,1,2],[0,1,2,3]]) [jl 26 3 7,jl 27 6 3,jc 28 24 [27],jc 29 8 [26,28],jm 8 29] [2,6,7,8]) (.seq (js [jm 30 8,jm 31 6,jb 32 .neq .s 30 31] [2,7,32] (.cond 32 (js [jm 4 kf] [4] .ret) .skip)) (.seq (.seq (.reg (some [[],[],[1],[0,1,2],[0,1,2,3]]) [jl 33 3 7,jl 34 3 2,jq 35 (.call 19 false [34]),jc 36 21 [33,35],jq 37 (.not 36)] [37]) (.cond 37 (js [jm 4 kf] [4] .ret) .skip)) (js [jm 4 kt] [4] .ret)))))))))))
def rv5:List RV:=[.t 4]
def bJ (g:G) (t:TE) (a0:Network) (a1:Scan):Option Bool:=
 lP (dG g t a0 1048576) fun x1=>
 br (g.lt x1 0)
 (
  some true)
 (
  lP (fX g t (Scan.mk a1.Thing a1.At a1.Kind a1.Place (Trip.mk a1.Trip.Leg a1.Trip.Day)) x1) fun x2=>
  br (g.lt x2 0)
  (
   some true)
  (
   cl (cr g t a0) fun x3=>
   lP (eI g t (Scan.mk a1.Thing a1.At a1.Kind a1.Place (Trip.mk a1.Trip.Leg a1.Trip.Day))) fun x4=>
   cl (cY g t x3 (Scan.mk x4.Thing x4.At x4.Kind x4.Place (Trip.mk x4.Trip.Leg x4.Trip.Day))) fun x5=>
   cl (cr g t a0) fun x6=>
   lP (eI g t (Scan.mk a1.Thing a1.At a1.Kind a1.Place (Trip.mk a1.Trip.Leg a1.Trip.Day))) fun x7=>
   cl (cW g t x6 (Scan.mk x7.Thing x7.At x7.Kind x7.Place (Trip.mk x7.Trip.Leg x7.Trip.Day))) fun x8=>
   br (g.seq x8 x5)
   (
    cl (cr g t a0) fun x9=>
    cl (dA g t x6 x9) fun x10=>
    br x10
    (
     some true)
    (
     some false))
   (
    some false)))
theorem fo {g:G} {t:TE} {a0:Network} {a1:Scan} {r:Bool} (hg:g=G.real) (ht:t=TE.real) (h:bJ g t a0 a1=some r):Fn Tryz.prog 5 [.g (Network.rs t a0),.g (Scan.rs t a1)] (.c (.r (.v (.bool r)))):=by
 obtain⟨X,hX⟩:=bg (.c (.r (.v (.bool r))):X);rw[←hX];refine aD (rvs:=rv5) (j:=ir5) Tryz.func5 rfl (by kernel_rfl) (nb rfl) (by kernel_rfl) ae ?_;intro g2 F hg2 hF;obtain rfl:g2=g:=hg2.unique.trans hg.symm;clear hg2;obtain⟨_,lt,_,_,_,_,_,_,_,_,_,_,_,_,_,_,_,seq,_,_,_,_,_,_,_,_,_,_,_,rda⟩:=g2;obtain⟨_,_,r_Leg,d_Leg,r_I64,d_I64⟩:=t;obtain⟨a0_Legs,a0_Off,a0_Change⟩:=a0
 obtain⟨a1_Thing,a1_At,a1_Kind,a1_Place,⟨a1_Trip_Leg,a1_Trip_Day⟩⟩:=a1;have hrda_Leg:∀l,rda (d_Leg l)=r_Leg l:=uA hg ht;have hrda_I64:∀l,rda (d_I64 l)=r_I64 l:=tY hg ht;unfold bJ at h;try dsimp only at h
 cbv;obtain⟨x1,hx1,h⟩:=am h;try dsimp only at h
 refine ACall.mk _ _ rfl (hF _ _ _ (lC hg ht hx1)) (.inl rfl) (nb rfl) ?_;cbv
 cases hb1:(lt x1 0)
 rotate_left
 ·rw[ab hb1] at h;cbv;obtain rfl:=Option.some.inj h;exact ARet.mk trivial hX.symm
 rw[aa hb1] at h;cbv;obtain⟨x2,hx2,h⟩:=am h;try dsimp only at h
 refine ACall.mk _ _ rfl (hF _ _ _ (pz hg ht hx2)) (.inl rfl) (nb rfl) ?_;cbv
 cases hb2:(lt x2 0)
 rotate_left
 ·rw[ab hb2] at h;cbv;obtain rfl:=Option.some.inj h;exact ARet.mk trivial hX.symm
 rw[aa hb2] at h;cbv;obtain⟨x3,hx3,h⟩:=ai h;obtain⟨x3_Legs,x3_Off,x3_Change⟩:=x3;try dsimp only at h
 refine ACallR.mk _ _ (.g [.r (.s 6 (r_Leg x3_Legs)),.r (.s 1 (r_I64 x3_Off)),.r (.v (.int .i64 x3_Change))]) rfl (hF _ _ _ (ez hg ht hx3)) (.inl rfl) (nb rfl) (by cbv;(try simp only[hrda_I64,hrda_Leg])) ?_;cbv;obtain⟨x4,hx4,h⟩:=am h;obtain⟨x4_Thing,x4_At,x4_Kind,x4_Place,⟨x4_Trip_Leg,x4_Trip_Day⟩⟩:=x4;try dsimp only at h
 refine ACall.mk _ _ rfl (hF _ _ _ (lw hg ht hx4)) (.inl rfl) (nb rfl) ?_;cbv;obtain⟨x5,hx5,h⟩:=ai h;try dsimp only at h
 refine ACall.mk _ _ rfl (hF _ _ _ (jY hg ht hx5)) (.inl rfl) (nb rfl) ?_;cbv;obtain⟨x6,hx6,h⟩:=ai h;obtain⟨x6_Legs,x6_Off,x6_Change⟩:=x6;try dsimp only at h
 refine ACallR.mk _ _ (.g [.r (.s 6 (r_Leg x6_Legs)),.r (.s 1 (r_I64 x6_Off)),.r (.v (.int .i64 x6_Change))]) rfl (hF _ _ _ (ez hg ht hx6)) (.inl rfl) (nb rfl) (by cbv;(try simp only[hrda_I64,hrda_Leg])) ?_;cbv;obtain⟨x7,hx7,h⟩:=am h;obtain⟨x7_Thing,x7_At,x7_Kind,x7_Place,⟨x7_Trip_Leg,x7_Trip_Day⟩⟩:=x7;try dsimp only at h
 refine ACall.mk _ _ rfl (hF _ _ _ (lw hg ht hx7)) (.inl rfl) (nb rfl) ?_;cbv;obtain⟨x8,hx8,h⟩:=ai h;try dsimp only at h
 refine ACall.mk _ _ rfl (hF _ _ _ (kc hg ht hx8)) (.inl rfl) (nb rfl) ?_;cbv
 cases hb3:(seq x8 x5)
 ·rw[aa hb3] at h;cbv;obtain rfl:=Option.some.inj h;exact ARet.mk trivial hX.symm
 rw[ab hb3] at h;cbv;obtain⟨x9,hx9,h⟩:=ai h;obtain⟨x9_Legs,x9_Off,x9_Change⟩:=x9;try dsimp only at h
 refine ACallR.mk _ _ (.g [.r (.s 6 (r_Leg x9_Legs)),.r (.s 1 (r_I64 x9_Off)),.r (.v (.int .i64 x9_Change))]) rfl (hF _ _ _ (ez hg ht hx9)) (.inl rfl) (nb rfl) (by cbv;(try simp only[hrda_I64,hrda_Leg])) ?_;cbv;obtain⟨x10,hx10,h⟩:=ai h;try dsimp only at h
 refine ACall.mk _ _ rfl (hF _ _ _ (lD hg ht hx10)) (.inl rfl) (nb rfl) ?_;cbv
 cases hb4:x10
 rotate_left
 ·rw[ab hb4] at h;cbv;obtain rfl:=Option.some.inj h;exact ARet.mk trivial hX.symm
 rw[aa hb4] at h;cbv;obtain rfl:=Option.some.inj h;exact ARet.mk trivial hX.symm
end Go.Vs
