/- Part of the proofs of this seat's laws: Laa. No condition. -/
import Derived.Test.YtdgkokanccedkaaGreatDoorTy
import Derived.Test.YtdgkokanccedkaaGreatDoorTIRall
import Derived.Test.YtdgkokanccedkaaGreatDoorVg
import Derived.Test.YtdgkokanccedkaaGreatDoorProg
import Derived.Shelf.Sort.AssemblysIn
import Derived.Shelf.Sort.So_math_bits_LenInS
import Derived.Shelf.Lay
import Derived.Sort.EveryDepth
import Derived.Lib.Walk
import Derived.LoopN
import Derived.Lib.Join
import Derived.Lib.AppendIntMem
import Derived.Shelf.Strconv.Itoa3
import Derived.KernelRfl
import Derived.Lib.AtoiAll
import Derived.Shelf.Strings.Repeat
set_option linter.unusedVariables false
set_option linter.unusedSimpArgs false
set_option linter.unusedSectionVars false
namespace Go.Vs
set_option maxRecDepth 100000
def ir34:J:=js [jm 6 kf] [0,1,2] (js [jm 7 1,jm 8 0,jb 9 .leq .i 7 8,jm 10 9,ju 11 10 (.mv 0),ju 12 10 (.mv 2),ju 13 10 (.bin .leq .i 11 12),jq 14 (.pick 10 13 kf),jm 6 14] [6] .ret)
def rv34:List RV:=[.t 6]
open Go.Proofs Go.IntWalk
set_option linter.unusedVariables false
set_option maxHeartbeats 4000000
def bw (g:G) (t:TE) (a0:Int) (a1:Int) (a2:Int):Bool:=
 br (g.le a1 a0)
 (
  (g.le a0 a2))
 (
  false)
theorem bE {g:G} {t:TE} {a0:Int} {a1:Int} {a2:Int} {r:Bool} (hg:g=G.real) (ht:t=TE.real) (h:bw g t a0 a1 a2=r):Fn Tryz.prog 34 [.c (.v (.int .i64 a0)),.c (.v (.int .i64 a1)),.c (.v (.int .i64 a2))] (.c (.r (.v (.bool r)))):=by
 obtain⟨X,hX⟩:=bg (.c (.r (.v (.bool r))):X);rw[←hX];refine aD (rvs:=rv34) (j:=ir34) Tryz.func34 rfl (by kernel_rfl) (nb rfl) (by kernel_rfl) ae ?_;intro g2 F hg2 hF;obtain rfl:g2=g:=hg2.unique.trans hg.symm;clear hg2;obtain⟨_,_,le⟩:=g2;obtain⟨_⟩:=t;unfold bw at h;try dsimp only at h
 cbv
 cases hb1:(le a1 a0)
 rotate_left
 ·rw[ab hb1] at h;cbv;iterate 3 try(rw[hb1];cbv)
  subst h;exact ARet.mk trivial hX.symm
 rw[aa hb1] at h;cbv;iterate 3 try(rw[hb1];cbv)
 subst h;exact ARet.mk trivial hX.symm
def ir95:J:=js [jm 2 kf] [0] (.seq (js [jm 3 (ki 0)] [0,3] (.bl 0 (.seq (js [jm 4 3,jm 5 0,jq 6 (.len true 5),jb 7 .lss .i 4 6] [0,3,7] (.cond 7 .skip (.exit 0))) (.seq (.block 1 (js [jm 10 0,jm 11 3,jq 12 (.idx 10 11),jq 13 (.bin .lss .i 12 (.k (.c (.r (.v (.int .u8 65)))))),jm 14 13,jv 15 14 (.mv 0),jv 16 14 (.mv 3),jv 17 14 (.idx 15 16),jv 18 14 (.bin .gtr .i 17 (.k (.c (.r (.v (.int .u8 90)))))),jq 19 (.pick 14 kt 18)] [0,3,19] (.cond 19 (js [jm 2 kf] [2] .ret) .skip))) (.reg none [jm 8 3,jb 9 .add .i 8 (ki 1),jm 3 9] [0,3]))))) (js [jm 20 0,jq 21 (.len true 20),jb 22 .eql .i 21 (ki 3),jm 2 22] [2] .ret))
def rv95:List RV:=[.t 2]
def bA (g:G) (t:TE) (a0:ByteArray):Nat→Int→LR Bool Unit
 |0,v1=>
  (LR.out ())
 |n1+1,v1=>
  br (g.lt (g.byte a0 v1) 65)
  (
   (LR.ret false))
  (
   br (g.lt 90 (g.byte a0 v1))
   (
    (LR.ret false))
   (
    bA g t a0 n1 (g.wrap .i64 (g.add v1 1))))
def dU (g:G) (t:TE) (a0:ByteArray):Option Bool:=
 gd (((g.int (g.slen a0))≤9223372036854775807))<|
 lP (bA g t a0 (a9 0 (g.int (g.slen a0))) 0) fun o1=>lr o1 fun y1=>
 some (g.eq (g.int (g.slen a0)) 3)
theorem jH {g:G} {t:TE} {a0:ByteArray} {r:Bool} (hg:g=G.real) (ht:t=TE.real) (h:dU g t a0=some r):Fn Tryz.prog 95 [.c (.v (.string a0))] (.c (.r (.v (.bool r)))):=by
 obtain⟨X,hX⟩:=bg (.c (.r (.v (.bool r))):X);rw[←hX];refine aD (rvs:=rv95) (j:=ir95) Tryz.func95 rfl (by kernel_rfl) (nb rfl) (by kernel_rfl) ae ?_;intro g2 F hg2 hF;obtain rfl:g2=g:=hg2.unique.trans hg.symm;clear hg2;obtain⟨wrap,lt,_,_,_,_,_,_,_,_,_,_,int,add,_,_,_,_,_,_,byte,_,_,_,_,_,_,_,_,_,_,_,_,_,_,slen⟩:=g2;obtain⟨_⟩:=t;unfold dU at h;try dsimp only at h
 cbv;obtain⟨hB1,h⟩:=ah h;obtain⟨o1,ho1,h⟩:=am h;try dsimp only at h
 try rw[hg] at ho1
 try rw[ht] at ho1
 refine ABL.mk {p:Nat×Int//p.1=a9 p.2 (int (slen a0))∧0≤p.2∧bA G.real TE.real a0 p.1 p.2=o1} (fun⟨⟨n1,v1⟩,_⟩=>({sl:=[(0,.c (.r (.v (.string a0)))),(3,.c (.r (.v (.int .i64 v1))))],tab:=[]}:St)) 0 (fun p=>p.1.1) ⟨(a9 0 (int (slen a0)),0),rfl,Int.le_refl _,ho1⟩ (Unit) (fun _=>({sl:=[(0,.c (.r (.v (.string a0))))],tab:=[]}:St)) 0 (fun y=>o1=LR.out y) ?_ ?_ ?_
 ·refine Wk.of [] rfl rfl ?_ ?_
  ·cbv;all_goals exact⟨⟨_,rfl,rfl⟩,⟨_,rfl,rfl⟩,trivial⟩
  cbv;all_goals exact trivial
 ·rintro⟨⟨n1,v1⟩,hn1,hi1,h_1⟩ hq1;try dsimp only at hn1 hi1 h_1
  clear hq1;cbv;rcases n1 with _|n1
  ·have hb1:lt v1 (int (slen a0))=false:=dT hg hn1;rw[bA] at h_1;try rw[←hg] at h_1
   try rw[←ht] at h_1
   try dsimp only at h_1
   rw[hb1];cbv;refine⟨(),Wk.of [] rfl rfl ?_ ?_,h_1.symm⟩
   ·cbv;all_goals exact⟨⟨_,rfl,rfl⟩,trivial⟩
   cbv;all_goals exact trivial
  have hb1:lt v1 (int (slen a0))=true:=eG hg hn1;have hl1:=iI hn1;have hs1:=gg hg hn1 hi1 hB1 (by decide);rw[bA] at h_1;try rw[←hg] at h_1
  try rw[←ht] at h_1
  try dsimp only at h_1
  rw[hb1];cbv;refine AStep.mk (pS hg hi1 hl1) ?_;cbv
  cases hb2:(lt (byte a0 v1) 65)
  rotate_left
  ·rw[ab hb2] at h_1;cbv;iterate 4 try(rw[hb2];cbv)
   subst h_1;try dsimp only[lr,lrL,lrp,bQ] at h
   obtain rfl:=Option.some.inj h;exact ARet.mk trivial hX.symm
  rw[aa hb2] at h_1;cbv;iterate 2 try(rw[hb2];cbv)
  refine AStep.mk (pS hg hi1 hl1) ?_;cbv;iterate 2 try(rw[hb2];cbv)
  cases hb3:(lt 90 (byte a0 v1))
  rotate_left
  ·rw[ab hb3] at h_1;cbv;subst h_1;try dsimp only[lr,lrL,lrp,bQ] at h
   obtain rfl:=Option.some.inj h;exact ARet.mk trivial hX.symm
  rw[aa hb3] at h_1;cbv;try rw[hg] at h_1
  try rw[ht] at h_1
  refine⟨⟨(n1,(wrap .i64 (add v1 1))),hs1.1,hs1.2,h_1⟩,Wk.of [] rfl rfl ?_ ?_,Nat.lt_succ_self _⟩
  ·cbv;all_goals exact⟨⟨_,rfl,rfl⟩,⟨_,rfl,rfl⟩,trivial⟩
  cbv;all_goals exact trivial
 rintro _ hy1;replace hy1:=hy1.symm;subst hy1;try dsimp only[lr,lrL,lrp,bQ] at h
 cbv;obtain rfl:=Option.some.inj h;exact ARet.mk trivial hX.symm
def ir69:J:=js [jq 1 (.box 0),jm 2 kf] [1] (js [jf 3 0 1,jk 4 3,jc 5 95 [4],jm 6 5,ju 7 6 (.fa 1 1),ju 8 6 (.ld false 1 7),ju 9 6 (.call 95 true [8]),jq 10 (.pick 6 9 kf),jm 11 10,ju 12 11 (.fa 0 1),ju 13 11 (.ld false 1 12),ju 14 11 (.fa 1 1),ju 15 11 (.ld false 1 14),ju 16 11 (.bin .neq .s 13 15),jq 17 (.pick 11 16 kf),jm 18 17,ju 19 18 (.fa 2 1),ju 20 18 (.ld false 1 19),ju 21 18 (.call 34 true [20,(ki 0),(ki 1439)]),jq 22 (.pick 18 21 kf),jm 23 22,ju 24 23 (.fa 3 1),ju 25 23 (.ld false 1 24),ju 26 23 (.call 34 true [25,(ki 1),(ki 4320)]),jq 27 (.pick 23 26 kf),jm 28 27,ju 29 28 (.fa 4 1),ju 30 28 (.ld false 1 29),ju 31 28 (.call 34 true [30,(ki 1),(ki 127)]),jq 32 (.pick 28 31 kf),jm 33 32,ju 34 33 (.fa 5 1),ju 35 33 (.ld false 1 34),ju 36 33 (.call 34 true [35,(ki 0),(ki 1000000)]),jq 37 (.pick 33 36 kf),jm 2 37] [2] .ret)
def rv69:List RV:=[.t 2]
def hN (g:G) (t:TE) (a0:Leg):Option Bool:=
 cl (dU g t a0.From) fun x1=>
 br x1
 (
  cl (dU g t a0.To) fun x2=>
  br x2
  (
   br (g.seq a0.From a0.To)
   (
    some false)
   (
    lP (bw g t a0.Start 0 1439) fun x3=>
    br x3
    (
     lP (bw g t a0.Takes 1 4320) fun x4=>
     br x4
     (
      lP (bw g t a0.Days 1 127) fun x5=>
      br x5
      (
       lP (bw g t a0.Room 0 1000000) fun x6=>
       some x6)
      (
       some false))
     (
      some false))
    (
     some false)))
  (
   some false))
 (
  some false)
theorem rM {g:G} {t:TE} {a0:Leg} {r:Bool} (hg:g=G.real) (ht:t=TE.real) (h:hN g t a0=some r):Fn Tryz.prog 69 [.g (Leg.rs t a0)] (.c (.r (.v (.bool r)))):=by
 obtain⟨X,hX⟩:=bg (.c (.r (.v (.bool r))):X);rw[←hX];refine aD (rvs:=rv69) (j:=ir69) Tryz.func69 rfl (by kernel_rfl) (nb rfl) (by kernel_rfl) ae ?_;intro g2 F hg2 hF;obtain rfl:g2=g:=hg2.unique.trans hg.symm;clear hg2;obtain⟨_,_,_,_,_,_,_,_,_,_,_,_,_,_,_,_,_,seq⟩:=g2;obtain⟨_⟩:=t;obtain⟨a0_From,a0_To,a0_Start,a0_Takes,a0_Days,a0_Room⟩:=a0
 unfold hN at h;try dsimp only at h
 cbv;obtain⟨x1,hx1,h⟩:=ai h;try dsimp only at h
 refine ACall.mk _ _ rfl (hF _ _ _ (jH hg ht hx1)) (.inl rfl) (nb rfl) ?_;cbv
 cases hb1:x1
 ·rw[aa hb1] at h;cbv;iterate 3 try(rw[hb1];cbv)
  obtain rfl:=Option.some.inj h;exact ARet.mk trivial hX.symm
 rw[ab hb1] at h;cbv;iterate 2 try(rw[hb1];cbv)
 obtain⟨x2,hx2,h⟩:=ai h;try dsimp only at h
 refine ACall.mk _ _ rfl (hF _ _ _ (jH hg ht hx2)) (.inl rfl) (nb rfl) ?_;cbv;try(rw[hb1];cbv)
 cases hb2:x2
 ·rw[aa hb2] at h;cbv;iterate 5 try(rw[hb2];cbv)
  obtain rfl:=Option.some.inj h;exact ARet.mk trivial hX.symm
 rw[ab hb2] at h;cbv;iterate 5 try(rw[hb2];cbv)
 cases hb3:(seq a0_From a0_To)
 rotate_left
 ·rw[ab hb3] at h;cbv;iterate 3 try(rw[hb3];cbv)
  obtain rfl:=Option.some.inj h;exact ARet.mk trivial hX.symm
 rw[aa hb3] at h;cbv;iterate 2 try(rw[hb3];cbv)
 obtain⟨x3,hx3,h⟩:=am h;try dsimp only at h
 refine ACall.mk _ _ rfl (hF _ _ _ (bE hg ht hx3)) (.inl rfl) (nb rfl) ?_;cbv;try(rw[hb3];cbv)
 cases hb4:x3
 ·rw[aa hb4] at h;cbv;iterate 3 try(rw[hb4];cbv)
  obtain rfl:=Option.some.inj h;exact ARet.mk trivial hX.symm
 rw[ab hb4] at h;cbv;iterate 2 try(rw[hb4];cbv)
 obtain⟨x4,hx4,h⟩:=am h;try dsimp only at h
 refine ACall.mk _ _ rfl (hF _ _ _ (bE hg ht hx4)) (.inl rfl) (nb rfl) ?_;cbv;try(rw[hb4];cbv)
 cases hb5:x4
 ·rw[aa hb5] at h;cbv;iterate 3 try(rw[hb5];cbv)
  obtain rfl:=Option.some.inj h;exact ARet.mk trivial hX.symm
 rw[ab hb5] at h;cbv;iterate 2 try(rw[hb5];cbv)
 obtain⟨x5,hx5,h⟩:=am h;try dsimp only at h
 refine ACall.mk _ _ rfl (hF _ _ _ (bE hg ht hx5)) (.inl rfl) (nb rfl) ?_;cbv;try(rw[hb5];cbv)
 cases hb6:x5
 ·rw[aa hb6] at h;cbv;iterate 3 try(rw[hb6];cbv)
  obtain rfl:=Option.some.inj h;exact ARet.mk trivial hX.symm
 rw[ab hb6] at h;cbv;iterate 2 try(rw[hb6];cbv)
 obtain⟨x6,hx6,h⟩:=am h;try dsimp only at h
 refine ACall.mk _ _ rfl (hF _ _ _ (bE hg ht hx6)) (.inl rfl) (nb rfl) ?_;cbv;try(rw[hb6];cbv)
 obtain rfl:=Option.some.inj h;exact ARet.mk trivial hX.symm
def ir33:J:=js [jq 1 (.box 0),jm 2 kf] [1] (.seq (js [jf 7 0 1,jk 8 7,jq 9 (.len false 8),jm 10 (ki 0)] [1,8,9,10] (.bl 0 (js [jb 11 .lss .i 10 9] [1,8,9,10,11] (.seq (.cond 11 .skip (.exit 0)) (.seq (.block 1 (js [ja 12 6 8 10,jl 13 6 12,jq 4 (.alloc [.r (.v (.string .empty)),.r (.v (.string .empty)),.r (.v (.int .i64 0)),.r (.v (.int .i64 0)),.r (.v (.int .i64 0)),.r (.v (.int .i64 0))]),jp (.st 6 4 13)] [1,4,8,9,10] (js [jl 14 6 4,jc 15 69 [14],jq 16 (.not 15)] [1,8,9,10,16] (.cond 16 (js [jm 2 kf] [2] .ret) .skip)))) (.reg none [jb 17 .add .i 10 (ki 1),jm 10 17] [1,8,9,10])))))) (.seq (js [jf 18 1 1,jk 19 18,jq 20 (.len false 19),jm 21 (ki 0)] [1,19,20,21] (.bl 2 (js [jb 22 .lss .i 21 20] [1,19,20,21,22] (.seq (.cond 22 .skip (.exit 2)) (.seq (.block 3 (js [jm 23 21,ja 24 1 19 21,jk 25 24,jm 5 23,jm 6 25] [1,5,6,19,20,21] (js [jm 26 6,jc 27 34 [26,(ki 0),(ki 60)],jq 28 (.not 27),jm 29 28,jv 30 29 (.mv 5),jv 31 29 (.bin .gtr .i 30 (ki 0)),jv 32 29 (.mv 31),ju 33 32 (.fa 1 1),ju 34 32 (.ld false 1 33),ju 35 32 (.mv 5),ju 36 32 (.bin .sub .i 35 (ki 1)),ju 37 32 (.ia 1 34 36),ju 38 32 (.ld false 1 37),ju 39 32 (.mv 6),ju 40 32 (.bin .geq .i 38 39),jv 41 29 (.pick 32 40 kf),jq 42 (.pick 29 kt 41)] [1,19,20,21,42] (.cond 42 (js [jm 2 kf] [2] .ret) .skip)))) (.reg none [jb 43 .add .i 21 (ki 1),jm 21 43] [1,19,20,21])))))) (js [jf 44 0 1,jk 45 44,jq 46 (.len false 45),jb 47 .leq .i 46 (ki 20),jm 48 47,ju 49 48 (.fa 1 1),ju 50 48 (.ld false 1 49),ju 51 48 (.len false 50),ju 52 48 (.bin .leq .i 51 (ki 10)),jq 53 (.pick 48 52 kf),jm 54 53,ju 55 54 (.fa 2 1),ju 56 54 (.ld false 1 55),ju 57 54 (.call 34 true [56,(ki 0),(ki 240)]),jq 58 (.pick 54 57 kf),jm 2 58] [2] .ret)))
def rv33:List RV:=[.t 2]
def aT (g:G) (t:TE) (a0:Network):List Int→Int→Option (LR Bool Unit)
 |[],v2=>
  some (LR.out ())
 |z2::ls2,v2=>
  lP (bw g t z2 0 60) fun x2=>
  br x2
  (
   br (g.lt 0 v2)
   (
    gd (((0:Int)≤(g.wrap .i64 (g.sub v2 1))))<|
    gt a0.Off (g.nat (g.wrap .i64 (g.sub v2 1))) fun x3=>
    br (g.le z2 x3)
    (
     some (LR.ret false))
    (
     aT g t a0 ls2 (g.wrap .i64 (g.add v2 1))))
   (
    aT g t a0 ls2 (g.wrap .i64 (g.add v2 1))))
  (
   some (LR.ret false))
def bh (g:G) (t:TE):List Leg→Option (LR Bool Unit)
 |[]=>
  some (LR.out ())
 |z1::ls1=>
  cl (hN g t z1) fun x1=>
  br x1
  (
   bh g t ls1)
  (
   some (LR.ret false))
def ct (g:G) (t:TE) (a0:Network):Option Bool:=
 cl (bh g t a0.Legs) fun o1=>lr o1 fun y1=>
 cl (aT g t a0 a0.Off 0) fun o2=>lr o2 fun y2=>
 br (g.le (g.llen (t.r_Leg a0.Legs)) 20)
 (
  br (g.le (g.llen (t.r_I64 a0.Off)) 10)
  (
   lP (bw g t a0.Change 0 240) fun x4=>
   some x4)
  (
   some false))
 (
  some false)
theorem gq {g:G} {t:TE} {a0:Network} {r:Bool} (hg:g=G.real) (ht:t=TE.real) (h:ct g t a0=some r):Fn Tryz.prog 33 [.g (Network.rs t a0)] (.c (.r (.v (.bool r)))):=by
 obtain⟨X,hX⟩:=bg (.c (.r (.v (.bool r))):X);rw[←hX];refine aD (rvs:=rv33) (j:=ir33) Tryz.func33 rfl (by kernel_rfl) (nb rfl) (by kernel_rfl) ae ?_;intro g2 F hg2 hF;obtain rfl:g2=g:=hg2.unique.trans hg.symm;clear hg2;obtain⟨wrap,lt,le,_,_,_,_,_,_,_,_,_,_,add,_,_,_,_,_,_,_,llen⟩:=g2;obtain⟨_,_,r_Leg,_,r_I64⟩:=t;obtain⟨a0_Legs,a0_Off,a0_Change⟩:=a0
 unfold ct at h;try dsimp only at h
 cbv;obtain⟨o1,ho1,h⟩:=ai h;try dsimp only at h
 try rw[hg] at ho1
 try rw[ht] at ho1
 refine ABL.mk {p:Nat×Int//p.1≤a0_Legs.length∧p.2=((p.1:Nat):Int)∧bh G.real TE.real (List.drop p.1 a0_Legs)=some o1} (fun⟨⟨k1,v1⟩,_⟩=>({sl:=[(1,.c (.p 0 3 0 0)),(8,.c (.r (.s 6 (r_Leg a0_Legs)))),(9,.c (.r (.v (.int .i64 (llen (r_Leg a0_Legs)))))),(10,.c (.r (.v (.int .i64 v1))))],tab:=[(0,some (.foc 3 [] [.r (.s 6 (r_Leg a0_Legs)),.r (.s 1 (r_I64 a0_Off)),.r (.v (.int .i64 a0_Change))] []))]}:St)) 1 (fun p=>a0_Legs.length-p.1.1) ⟨(0,0),Nat.zero_le _,rfl,ho1⟩ (Unit) (fun _=>({sl:=[(1,.c (.p 0 3 0 0))],tab:=[(0,some (.foc 3 [] [.r (.s 6 (r_Leg a0_Legs)),.r (.s 1 (r_I64 a0_Off)),.r (.v (.int .i64 a0_Change))] []))]}:St)) 1 (fun y=>o1=LR.out y) ?_ ?_ ?_
 ·refine Wk.of [(0,some 0)] rfl rfl ?_ ?_
  ·cbv;all_goals exact⟨⟨_,rfl,rfl⟩,⟨_,rfl,rfl⟩,⟨_,rfl,rfl⟩,⟨_,rfl,rfl⟩,trivial⟩
  cbv;all_goals exact⟨⟨_,rfl,_,rfl,rfl,rfl,rfl,trivial⟩,trivial⟩
 ·rintro⟨⟨k1,v1⟩,hk1,hi1,h_1⟩ hq1;have hm1:=(hq1.1 8 _ _ rfl);try dsimp only at hk1 hi1 h_1
  clear hq1;cbv
  by_cases hc1_:k1<a0_Legs.length
  ·have hb1:lt v1 (llen (r_Leg a0_Legs))=true:=cv hg ht hi1 hc1_;have hs1:=dY hg ht hi1 hc1_ hm1;obtain⟨z1,hz1⟩:=aV hc1_;rw[aF hz1] at h_1;rw[bh] at h_1;obtain⟨z1_From,z1_To,z1_Start,z1_Takes,z1_Days,z1_Room⟩:=z1;try rw[←hg] at h_1
   try rw[←ht] at h_1
   try dsimp only at h_1
   rw[hb1];cbv;refine AStep.mk (fR hi1) ?_;cbv;refine AGet.mk _ (dw hg ht hi1 hz1) ?_;cbv;obtain⟨x1,hx1,h_1⟩:=ai h_1;try dsimp only at h_1
   refine ACall.mk _ _ rfl (hF _ _ _ (rM hg ht hx1)) (.inl rfl) (nb rfl) ?_;cbv
   cases hb2:x1
   ·rw[aa hb2] at h_1;cbv;obtain rfl:=Option.some.inj h_1;try dsimp only[lr,lrL,lrp,bQ] at h
    obtain rfl:=Option.some.inj h;exact ARet.mk trivial hX.symm
   rw[ab hb2] at h_1;cbv;try rw[hg] at h_1
   try rw[ht] at h_1
   refine⟨⟨(k1+1,(wrap .i64 (add v1 1))),hc1_,hs1,h_1⟩,Wk.of [(0,some 0)] rfl rfl ?_ ?_,cF hc1_⟩
   ·cbv;all_goals exact⟨⟨_,rfl,rfl⟩,⟨_,rfl,rfl⟩,⟨_,rfl,rfl⟩,⟨_,rfl,rfl⟩,trivial⟩
   cbv;all_goals exact⟨⟨_,rfl,_,rfl,rfl,rfl,rfl,trivial⟩,trivial⟩
  have hb1:lt v1 (llen (r_Leg a0_Legs))=false:=ci hg ht hi1 hc1_;rw[List.drop_of_length_le (Nat.le_of_not_lt hc1_)] at h_1;rw[bh] at h_1;try rw[←hg] at h_1
  try rw[←ht] at h_1
  try dsimp only at h_1
  rw[hb1];cbv;refine⟨(),Wk.of [(0,some 0)] rfl rfl ?_ ?_,(Option.some.inj h_1).symm⟩
  ·cbv;all_goals exact⟨⟨_,rfl,rfl⟩,trivial⟩
  cbv;all_goals exact⟨⟨_,rfl,_,rfl,rfl,rfl,rfl,trivial⟩,trivial⟩
 rintro _ hy1;replace hy1:=hy1.symm;subst hy1;try dsimp only[lr,lrL,lrp,bQ] at h
 cbv;obtain⟨o2,ho2,h⟩:=ai h;try dsimp only at h
 try rw[hg] at ho2
 try rw[ht] at ho2
 refine ABL.mk {p:Nat×Int//p.1≤a0_Off.length∧p.2=((p.1:Nat):Int)∧aT G.real TE.real (Network.mk a0_Legs a0_Off a0_Change) (List.drop p.1 a0_Off) p.2=some o2} (fun⟨⟨k2,v2⟩,_⟩=>({sl:=[(1,.c (.p 0 3 0 0)),(19,.c (.r (.s 1 (r_I64 a0_Off)))),(20,.c (.r (.v (.int .i64 (llen (r_I64 a0_Off)))))),(21,.c (.r (.v (.int .i64 v2))))],tab:=[(0,some (.foc 3 [] [.r (.s 6 (r_Leg a0_Legs)),.r (.s 1 (r_I64 a0_Off)),.r (.v (.int .i64 a0_Change))] []))]}:St)) 1 (fun p=>a0_Off.length-p.1.1) ⟨(0,0),Nat.zero_le _,rfl,ho2⟩ (Unit) (fun _=>({sl:=[(1,.c (.p 0 3 0 0))],tab:=[(0,some (.foc 3 [] [.r (.s 6 (r_Leg a0_Legs)),.r (.s 1 (r_I64 a0_Off)),.r (.v (.int .i64 a0_Change))] []))]}:St)) 1 (fun y=>o2=LR.out y) ?_ ?_ ?_
 ·refine Wk.of [(0,some 0)] rfl rfl ?_ ?_
  ·cbv;all_goals exact⟨⟨_,rfl,rfl⟩,⟨_,rfl,rfl⟩,⟨_,rfl,rfl⟩,⟨_,rfl,rfl⟩,trivial⟩
  cbv;all_goals exact⟨⟨_,rfl,_,rfl,rfl,rfl,rfl,trivial⟩,trivial⟩
 ·rintro⟨⟨k2,v2⟩,hk2,hi2,h_2⟩ hq2;have hm2:=(hq2.1 19 _ _ rfl);try dsimp only at hk2 hi2 h_2
  clear hq2;cbv
  by_cases hc2_:k2<a0_Off.length
  ·have hb3:lt v2 (llen (r_I64 a0_Off))=true:=cw hg ht hi2 hc2_;have hs2:=dW hg ht hi2 hc2_ hm2;obtain⟨z2,hz2⟩:=aV hc2_;rw[aF hz2] at h_2;rw[aT] at h_2;try rw[←hg] at h_2
   try rw[←ht] at h_2
   try dsimp only at h_2
   rw[hb3];cbv;refine AStep.mk (fR hi2) ?_;cbv;refine AGet.mk _ (cM hg ht hi2 hz2) ?_;cbv;obtain⟨x2,hx2,h_2⟩:=am h_2;try dsimp only at h_2
   refine ACall.mk _ _ rfl (hF _ _ _ (bE hg ht hx2)) (.inl rfl) (nb rfl) ?_;cbv
   cases hb4:x2
   ·rw[aa hb4] at h_2;cbv;iterate 4 try(rw[hb4];cbv)
    obtain rfl:=Option.some.inj h_2;try dsimp only[lr,lrL,lrp,bQ] at h
    obtain rfl:=Option.some.inj h;exact ARet.mk trivial hX.symm
   rw[ab hb4] at h_2;cbv;iterate 2 try(rw[hb4];cbv)
   cases hb5:(lt 0 v2)
   ·rw[aa hb5] at h_2;cbv;iterate 7 try(rw[hb5];cbv)
    try(rw[hb4];cbv)
    try(rw[hb5];cbv)
    try(rw[hb4];cbv)
    try rw[hg] at h_2
    try rw[ht] at h_2
    refine⟨⟨(k2+1,(wrap .i64 (add v2 1))),hc2_,hs2,h_2⟩,Wk.of [(0,some 0)] rfl rfl ?_ ?_,cF hc2_⟩
    ·cbv;all_goals exact⟨⟨_,rfl,rfl⟩,⟨_,rfl,rfl⟩,⟨_,rfl,rfl⟩,⟨_,rfl,rfl⟩,trivial⟩
    cbv;all_goals exact⟨⟨_,rfl,_,rfl,rfl,rfl,rfl,trivial⟩,trivial⟩
   rw[ab hb5] at h_2;cbv;iterate 4 try(rw[hb5];cbv)
   obtain⟨hc1,h_2⟩:=ah h_2;refine AStep.mk hc1 ?_;cbv;obtain⟨x3,hx3,h_2⟩:=dc h_2;try dsimp only at h_2
   refine AGet.mk _ (gb hg ht hx3) ?_;cbv;iterate 3 try(rw[hb5];cbv)
   try(rw[hb4];cbv)
   try(rw[hb5];cbv)
   try(rw[hb4];cbv)
   cases hb6:(le z2 x3)
   rotate_left
   ·rw[ab hb6] at h_2;cbv;obtain rfl:=Option.some.inj h_2;try dsimp only[lr,lrL,lrp,bQ] at h
    obtain rfl:=Option.some.inj h;exact ARet.mk trivial hX.symm
   rw[aa hb6] at h_2;cbv;try rw[hg] at h_2
   try rw[ht] at h_2
   refine⟨⟨(k2+1,(wrap .i64 (add v2 1))),hc2_,hs2,h_2⟩,Wk.of [(0,some 0)] rfl rfl ?_ ?_,cF hc2_⟩
   ·cbv;all_goals exact⟨⟨_,rfl,rfl⟩,⟨_,rfl,rfl⟩,⟨_,rfl,rfl⟩,⟨_,rfl,rfl⟩,trivial⟩
   cbv;all_goals exact⟨⟨_,rfl,_,rfl,rfl,rfl,rfl,trivial⟩,trivial⟩
  have hb3:lt v2 (llen (r_I64 a0_Off))=false:=ch hg ht hi2 hc2_;rw[List.drop_of_length_le (Nat.le_of_not_lt hc2_)] at h_2;rw[aT] at h_2;try rw[←hg] at h_2
  try rw[←ht] at h_2
  try dsimp only at h_2
  rw[hb3];cbv;refine⟨(),Wk.of [(0,some 0)] rfl rfl ?_ ?_,(Option.some.inj h_2).symm⟩
  ·cbv;all_goals exact⟨⟨_,rfl,rfl⟩,trivial⟩
  cbv;all_goals exact⟨⟨_,rfl,_,rfl,rfl,rfl,rfl,trivial⟩,trivial⟩
 rintro _ hy2;replace hy2:=hy2.symm;subst hy2;try dsimp only[lr,lrL,lrp,bQ] at h
 cbv
 cases hb7:(le (llen (r_Leg a0_Legs)) 20)
 ·rw[aa hb7] at h;cbv;iterate 4 try(rw[hb7];cbv)
  obtain rfl:=Option.some.inj h;exact ARet.mk trivial hX.symm
 rw[ab hb7] at h;cbv;iterate 4 try(rw[hb7];cbv)
 cases hb8:(le (llen (r_I64 a0_Off)) 10)
 ·rw[aa hb8] at h;cbv;iterate 3 try(rw[hb8];cbv)
  obtain rfl:=Option.some.inj h;exact ARet.mk trivial hX.symm
 rw[ab hb8] at h;cbv;iterate 2 try(rw[hb8];cbv)
 obtain⟨x4,hx4,h⟩:=am h;try dsimp only at h
 refine ACall.mk _ _ rfl (hF _ _ _ (bE hg ht hx4)) (.inl rfl) (nb rfl) ?_;cbv;try(rw[hb8];cbv)
 obtain rfl:=Option.some.inj h;exact ARet.mk trivial hX.symm
def ir35:J:=js [jm 4 (ki 0)] [0,1] (.seq (js [jm 7 0,jq 8 (.len false 7),jm 9 (ki 0)] [1,7,8,9] (.bl 0 (js [jb 10 .lss .i 9 8] [1,7,8,9,10] (.seq (.cond 10 .skip (.exit 0)) (.seq (.block 1 (js [jm 11 9,ja 12 1 7 9,jk 13 12,jm 5 11,jm 6 13] [1,5,6,7,8,9] (js [jm 14 6,jm 15 1,jb 16 .eql .s 14 15] [1,5,7,8,9,16] (.cond 16 (js [jm 17 5,jm 4 17] [4] .ret) .skip)))) (.reg none [jb 18 .add .i 9 (ki 1),jm 9 18] [1,7,8,9])))))) (js [jq 4 (.mv (.k (V.i (-1))))] [4] .ret))
def rv35:List RV:=[.t 4]
def aY (g:G) (t:TE) (a1:ByteArray):List ByteArray→Int→LR Int Unit
 |[],v1=>
  (LR.out ())
 |z1::ls1,v1=>
  br (g.seq z1 a1)
  (
   (LR.ret v1))
  (
   aY g t a1 ls1 (g.wrap .i64 (g.add v1 1)))
def dt (g:G) (t:TE) (a0:List ByteArray) (a1:ByteArray):Int:=
 lP (aY g t a1 a0 0) fun o1=>lrp o1 fun y1=>
 (-1)
theorem jC {g:G} {t:TE} {a0:List ByteArray} {a1:ByteArray} {r:Int} (hg:g=G.real) (ht:t=TE.real) (h:dt g t a0 a1=r):Fn Tryz.prog 35 [.c (.s 1 (t.r_S a0)),.c (.v (.string a1))] (.c (.r (.v (.int .i64 r)))):=by
 obtain⟨X,hX⟩:=bg (.c (.r (.v (.int .i64 r))):X);rw[←hX];refine aD (rvs:=rv35) (j:=ir35) Tryz.func35 rfl (by kernel_rfl) (nb rfl) (by kernel_rfl) ae ?_;intro g2 F hg2 hF;obtain rfl:g2=g:=hg2.unique.trans hg.symm;clear hg2;obtain⟨wrap,lt,_,_,_,_,_,_,_,_,_,_,_,add,_,_,_,seq,_,_,_,llen⟩:=g2;obtain⟨_,_,_,_,_,_,r_S⟩:=t;unfold dt at h;try dsimp only at h
 cbv;obtain⟨o1,ho1,h⟩:=am h;try dsimp only at h
 try rw[hg] at ho1
 try rw[ht] at ho1
 refine ABL.mk {p:Nat×Int//p.1≤a0.length∧p.2=((p.1:Nat):Int)∧aY G.real TE.real a1 (List.drop p.1 a0) p.2=o1} (fun⟨⟨k1,v1⟩,_⟩=>({sl:=[(1,.c (.r (.v (.string a1)))),(7,.c (.r (.s 1 (r_S a0)))),(8,.c (.r (.v (.int .i64 (llen (r_S a0)))))),(9,.c (.r (.v (.int .i64 v1))))],tab:=[]}:St)) 0 (fun p=>a0.length-p.1.1) ⟨(0,0),Nat.zero_le _,rfl,ho1⟩ (Unit) (fun _=>({sl:=[],tab:=[]}:St)) 0 (fun y=>o1=LR.out y) ?_ ?_ ?_
 ·refine Wk.of [] rfl rfl ?_ ?_
  ·cbv;all_goals exact⟨⟨_,rfl,rfl⟩,⟨_,rfl,rfl⟩,⟨_,rfl,rfl⟩,⟨_,rfl,rfl⟩,trivial⟩
  cbv;all_goals exact trivial
 ·rintro⟨⟨k1,v1⟩,hk1,hi1,h_1⟩ hq1;have hm1:=(hq1.1 7 _ _ rfl);try dsimp only at hk1 hi1 h_1
  clear hq1;cbv
  by_cases hc1_:k1<a0.length
  ·have hb1:lt v1 (llen (r_S a0))=true:=kw hg ht hi1 hc1_;have hs1:=qp hg ht hi1 hc1_ hm1;obtain⟨z1,hz1⟩:=aV hc1_;rw[aF hz1] at h_1;rw[aY] at h_1;try rw[←hg] at h_1
   try rw[←ht] at h_1
   try dsimp only at h_1
   rw[hb1];cbv;refine AStep.mk (fR hi1) ?_;cbv;refine AGet.mk _ (n6 hg ht hi1 hz1) ?_;cbv
   cases hb2:(seq z1 a1)
   rotate_left
   ·rw[ab hb2] at h_1;cbv;subst h_1;try dsimp only[lr,lrL,lrp,bQ] at h
    subst h;exact ARet.mk trivial hX.symm
   rw[aa hb2] at h_1;cbv;try rw[hg] at h_1
   try rw[ht] at h_1
   refine⟨⟨(k1+1,(wrap .i64 (add v1 1))),hc1_,hs1,h_1⟩,Wk.of [] rfl rfl ?_ ?_,cF hc1_⟩
   ·cbv;all_goals exact⟨⟨_,rfl,rfl⟩,⟨_,rfl,rfl⟩,⟨_,rfl,rfl⟩,⟨_,rfl,rfl⟩,trivial⟩
   cbv;all_goals exact trivial
  have hb1:lt v1 (llen (r_S a0))=false:=jh hg ht hi1 hc1_;rw[List.drop_of_length_le (Nat.le_of_not_lt hc1_)] at h_1;rw[aY] at h_1;try rw[←hg] at h_1
  try rw[←ht] at h_1
  try dsimp only at h_1
  rw[hb1];cbv;refine⟨(),Wk.of [] rfl rfl ?_ ?_,h_1.symm⟩
  ·cbv;all_goals exact trivial
  cbv;all_goals exact trivial
 rintro _ hy1;replace hy1:=hy1.symm;subst hy1;try dsimp only[lr,lrL,lrp,bQ] at h
 cbv;subst h;exact ARet.mk trivial hX.symm
end Go.Vs
namespace Go.Proofs
open Go.RowKit Go.Sort
set_option maxHeartbeats 2000000
set_option maxRecDepth 100000
def Tryz.lays192_ren : Go.Shelf.Ren := ⟨fun | 192 => 70 | 190 => 96 | 125 => 123 | 258 => 122 | 128 => 153 | 129 => 154 | 302 => 144 | 303 => 145 | 304 => 146 | 305 => 147 | 306 => 148 | 307 => 149 | 308 => 150 | 309 => 151 | 310 => 152 | 333 => 166 | 329 => 167 | 330 => 168 | 334 => 169 | 335 => 170 | 336 => 171 | 344 => 176 | n => n, fun | 31 => 42 | 0 => 0 | 9 => 9 | 3 => 3 | 46 => 125 | 51 => 153 | 53 => 133 | 4 => 4 | 183 => 158 | 182 => 157 | 131 => 60 | 5 => 5 | 218 => 180 | 222 => 184 | 228 => 189 | 229 => 190 | n => n, fun | n => n⟩
theorem Tryz.lays192 : Go.Proofs.Lays.n192 Tryz.prog Tryz.lays192_ren := {
  mixed := by kernel_rfl
  f125 := Tryz.func123.trans (congrArg some (by kernel_rfl))
  f128 := Tryz.func153.trans (congrArg some (by kernel_rfl))
  f129 := Tryz.func154.trans (congrArg some (by kernel_rfl))
  f190 := Tryz.func96.trans (congrArg some (by kernel_rfl))
  f192 := Tryz.func70.trans (congrArg some (by kernel_rfl))
  f258 := Tryz.func122.trans (congrArg some (by kernel_rfl))
  f302 := Tryz.func144.trans (congrArg some (by kernel_rfl))
  f303 := Tryz.func145.trans (congrArg some (by kernel_rfl))
  f304 := Tryz.func146.trans (congrArg some (by kernel_rfl))
  f305 := Tryz.func147.trans (congrArg some (by kernel_rfl))
  f306 := Tryz.func148.trans (congrArg some (by kernel_rfl))
  f307 := Tryz.func149.trans (congrArg some (by kernel_rfl))
  f308 := Tryz.func150.trans (congrArg some (by kernel_rfl))
  f309 := Tryz.func151.trans (congrArg some (by kernel_rfl))
  f310 := Tryz.func152.trans (congrArg some (by kernel_rfl))
  f329 := Tryz.func167.trans (congrArg some (by kernel_rfl))
  f330 := Tryz.func168.trans (congrArg some (by kernel_rfl))
  f333 := Tryz.func166.trans (congrArg some (by kernel_rfl))
  f334 := Tryz.func169.trans (congrArg some (by kernel_rfl))
  f335 := Tryz.func170.trans (congrArg some (by kernel_rfl))
  f336 := Tryz.func171.trans (congrArg some (by kernel_rfl))
  f344 := Tryz.func176.trans (congrArg some (by kernel_rfl))
  t0 := Tryz.underlying0
  a0 := Tryz.isAgg0
  z0 := Tryz.sizeOf0
  v0 := Tryz.zeroValue0
  t3 := Tryz.underlying3
  a3 := Tryz.isAgg3
  z3 := Tryz.sizeOf3
  v3 := Tryz.zeroValue3
  t4 := Tryz.underlying4
  a4 := Tryz.isAgg4
  z4 := Tryz.sizeOf4
  v4 := Tryz.zeroValue4
  t5 := Tryz.underlying5
  a5 := Tryz.isAgg5
  z5 := Tryz.sizeOf5
  v5 := Tryz.zeroValue5
  t9 := Tryz.underlying9
  a9 := Tryz.isAgg9
  z9 := Tryz.sizeOf9
  v9 := Tryz.zeroValue9
  t31 := Tryz.underlying42
  a31 := Tryz.isAgg42
  z31 := Tryz.sizeOf42
  v31 := Tryz.zeroValue42
  t46 := Tryz.underlying125
  a46 := Tryz.isAgg125
  z46 := Tryz.sizeOf125
  v46 := Tryz.zeroValue125
  t51 := Tryz.underlying153
  a51 := Tryz.isAgg153
  z51 := Tryz.sizeOf153
  v51 := Tryz.zeroValue153
  t53 := Tryz.underlying133
  a53 := Tryz.isAgg133
  z53 := Tryz.sizeOf133
  v53 := Tryz.zeroValue133
  t131 := Tryz.underlying60
  a131 := Tryz.isAgg60
  z131 := Tryz.sizeOf60
  v131 := Tryz.zeroValue60
  t182 := Tryz.underlying157
  a182 := Tryz.isAgg157
  z182 := Tryz.sizeOf157
  v182 := Tryz.zeroValue157
  t183 := Tryz.underlying158
  a183 := Tryz.isAgg158
  z183 := Tryz.sizeOf158
  v183 := Tryz.zeroValue158
  t218 := Tryz.underlying180
  a218 := Tryz.isAgg180
  z218 := Tryz.sizeOf180
  v218 := Tryz.zeroValue180
  t222 := Tryz.underlying184
  a222 := Tryz.isAgg184
  z222 := Tryz.sizeOf184
  v222 := Tryz.zeroValue184
  t228 := Tryz.underlying189
  a228 := Tryz.isAgg189
  z228 := Tryz.sizeOf189
  v228 := Tryz.zeroValue189
  t229 := Tryz.underlying190
  a229 := Tryz.isAgg190
  z229 := Tryz.sizeOf190
  v229 := Tryz.zeroValue190 }
theorem Tryz.insS_nil (p:Option Addr) (cap:Nat) (w:World):
 Calls Tryz.prog 144 #[.slice p 0 cap,.int .i64 0,.int .i64 0] w fun e w'=>e=.returned (.tuple #[])∧w'=w:=by
 go_enter Tryz.func144,Tryz.ntmps144
 go_wp2
 refine wp_loop_rounds 1 ?_
 rw[rounds_succ]
 go_wp2
 go_end0
 exact⟨rfl,rfl⟩
theorem Tryz.pdqS_nil (p:Option Addr) (cap:Nat) (w:World):
 Calls Tryz.prog 122 #[.slice p 0 cap,.int .i64 0,.int .i64 0,.int .i64 0] w fun e w'=>e=.returned (.tuple #[])∧w'=w:=by
 go_enter Tryz.func122,Tryz.ntmps122
 go_wp2
 refine wp_loop_rounds 1 ?_
 rw[rounds_succ]
 go_wp2_with (first|(go_at_call 144;refine(Tryz.insS_nil p cap _).mono ?_;rintro e w' ⟨rfl,rfl⟩))
 refine bodyPost_ret (results_none rfl _ _ _) rfl ?_
 exact⟨rfl,rfl⟩
theorem Tryz.sortS_nil (p:Option Addr) (cap:Nat) (w:World):
 Calls Tryz.prog 96 #[.slice p 0 cap] w fun e w'=>e=.returned (.tuple #[])∧w'=w:=by
 have hLen:∀w,Calls Tryz.prog 123 #[.int .u64 0] w fun e w'=>e=.returned (.int .i64 0)∧w'=w:=fun w=>calls_of_every_depth fun D=>AnyS.bits_LenInS {Tryz.lays192 with} D 0 w (by omega) (by omega)
 go_enter Tryz.func96,Tryz.ntmps96
 go_wp2_with (first
  |(go_at_call 123;refine(hLen _).mono ?_;rintro e w' ⟨rfl,rfl⟩)
  |(go_at_call 122;refine(Tryz.pdqS_nil p cap _).mono ?_;rintro e w' ⟨rfl,rfl⟩))
 go_end0
 exact⟨rfl,rfl⟩
theorem Tryz.strs_nil (p:Option Addr) (cap:Nat) (w:World):
 Calls Tryz.prog 70 #[.slice p 0 cap] w fun e w'=>e=.returned (.tuple #[])∧w'=w:=by
 go_enter Tryz.func70,Tryz.ntmps70
 go_wp2_with (first|(go_at_call 96;refine(Tryz.sortS_nil p cap _).mono ?_;rintro e w' ⟨rfl,rfl⟩))
 go_end0
 exact⟨rfl,rfl⟩
end Go.Proofs
namespace Go.Vs
open Go.Proofs Go.RowKit
set_option linter.unusedVariables false
def d9 (g:G) (t:TE) (a0:List ByteArray):Option (List ByteArray):=gd (a0.length<4611686018427387904)<|some (g7 a0)
theorem iD {g:G} {t:TE} {a0 r:List ByteArray} (hg:g=G.real) (ht:t=TE.real) (h:d9 g t a0=some r):FnM Tryz.prog 70 (.m (.o 1 (t.d_S a0))) [] (.u []) (.m (.o 1 (t.d_S r))):=by
 obtain⟨hl,h⟩:=ah h;cases h
 subst ht;exact rc a0 hl (fun blk cap w hH hb=>calls_of_every_depth fun D=>AnyS.sort_Strings_in Tryz.lays192 D blk 0 cap (a0.map bOf) w hH hb (by simpa using hl)) (fun e w=>Tryz.strs_nil none 0 w)
set_option maxRecDepth 100000
def ir36:J:=js [jq 1 (.box 0),jq 2 (.mv (.k (.c (.n 1))))] [1] (js [jq 9 (.mkm true),jm 3 9] [1,3] (js [jq 10 (.bsl 1 []),jm 4 10] [1,3,4] (.seq (js [jf 11 0 1,jk 12 11,jq 13 (.len false 12),jm 14 (ki 0)] [3,4,12,13,14] (.bl 0 (js [jb 15 .lss .i 14 13] [3,4,12,13,14,15] (.seq (.cond 15 .skip (.exit 0)) (.seq (.block 1 (js [ja 16 6 12 14,jl 17 6 16,jq 6 (.alloc [.r (.v (.string .empty)),.r (.v (.string .empty)),.r (.v (.int .i64 0)),.r (.v (.int .i64 0)),.r (.v (.int .i64 0)),.r (.v (.int .i64 0))]),jp (.st 6 6 17)] [3,4,6,12,13,14] (js [jf 18 0 6,jk 19 18,jf 20 1 6,jk 21 20,jq 22 (.bsl 1 [19,21]),jq 23 (.len false 22),jm 24 (ki 0)] [3,4,12,13,14,22,23,24] (.bl 2 (js [jb 25 .lss .i 24 23] [3,4,12,13,14,22,23,24,25] (.seq (.cond 25 .skip (.exit 2)) (.seq (.block 3 (js [ja 26 1 22 24,jk 27 26,jm 8 27] [3,4,8,12,13,14,22,23,24] (js [jm 28 3,jm 29 8,jq 30 (.mlk true 28 29),jq 31 (.not 30)] [3,4,8,12,13,14,22,23,24,31] (.cond 31 (js [jm 32 3,jm 33 8,jp (.mup true 32 33)] [3,4,8,12,13,14,22,23,24] (.reg none [jm 34 4,jm 35 8,jq 36 (.bsl 1 [35]),jq 37 (.app 1 16 true 34 36),jm 4 37] [3,4,12,13,14,22,23,24])) .skip)))) (.reg none [jb 38 .add .i 24 (ki 1),jm 24 38] [3,4,12,13,14,22,23,24])))))))) (.reg none [jb 39 .add .i 14 (ki 1),jm 14 39] [3,4,12,13,14])))))) (js [jm 40 4,jq 41 (.callm 70 true 40 [])] [4] (js [jm 42 4,jm 2 42] [2] .ret)))))
def rv36:List RV:=[.t 2]
open Go.Proofs Go.IntWalk
set_option maxHeartbeats 4000000
def ba (g:G) (t:TE) (l2:List ByteArray):Nat→Int→List ByteArray→List ByteArray→Option ((List ByteArray)×List ByteArray)
 |0,v2,w3,w4=>
  some (w3,w4)
 |n2+1,v2,w3,w4=>
  gt l2 (g.nat v2) fun x1=>
  br (g.hasS w3 x1)
  (
   ba g t l2 n2 (g.wrap .i64 (g.add v2 1)) w3 w4)
  (
   lP ([x1]) fun(l3:List ByteArray)=>
   gd (((w4.length+l3.length)*16≤70368744177664))<|
   lP (w4++l3) fun(l4:List ByteArray)=>
   ba g t l2 n2 (g.wrap .i64 (g.add v2 1)) (g.putS w3 x1) l4)
def bm (g:G) (t:TE):List Leg→List ByteArray→List ByteArray→Option (List ByteArray)
 |[],w1,w2=>
  some w2
 |z1::ls1,w1,w2=>
  lP ([z1.From,z1.To]) fun(l2:List ByteArray)=>
  gd (((g.int (g.dlen (t.d_S l2)))≤9223372036854775807))<|
  cl (ba g t l2 (a9 0 (g.int (g.dlen (t.d_S l2)))) 0 w1 w2) fun y1=>
  bm g t ls1 y1.1 y1.2
def dj (g:G) (t:TE) (a0:Network):Option (List ByteArray):=
 lP ([]) fun(l1:List ByteArray)=>
 cl (bm g t a0.Legs [] l1) fun y2=>
 cl (d9 g t y2) fun x2=>
 gd ((x2.length=y2.length))<|
 some x2
theorem hY {g:G} {t:TE} {a0:Network} {r:List ByteArray} (hg:g=G.real) (ht:t=TE.real) (h:dj g t a0=some r):Fn Tryz.prog 36 [.g (Network.rs t a0)] (.c (.o 1 (t.d_S r))):=by
 obtain⟨X,hX⟩:=bg (.c (.o 1 (t.d_S r)):X);rw[←hX];refine aD (rvs:=rv36) (j:=ir36) Tryz.func36 rfl (by kernel_rfl) (nb rfl) (by kernel_rfl) ae ?_;intro g2 F hg2 hF;obtain rfl:g2=g:=hg2.unique.trans hg.symm;clear hg2;obtain⟨wrap,lt,_,_,_,_,_,_,_,_,_,_,int,add,_,_,_,_,_,_,_,llen,_,_,dlen,_,_,_,_,_,_,_,_,_,_,_,_,_,hasS,putS⟩:=g2;obtain⟨_,_,r_Leg,_,_,_,_,d_S⟩:=t;obtain⟨a0_Legs,a0_Off,a0_Change⟩:=a0
 unfold dj at h;try dsimp only at h
 cbv;obtain⟨l1,hl1,h⟩:=am h;try dsimp only at h
 refine ANew.mk (d_S l1) (dlen (d_S l1)) (by rw[←hl1];exact eF hg ht []) (by rw[←hl1];exact dk hg ht []) ?_;cbv;obtain⟨o1,ho1,h⟩:=ai h;try dsimp only at h
 try rw[hg] at ho1
 try rw[ht] at ho1
 refine ABL.mk {p:Nat×Int×(List ByteArray)×List ByteArray//p.1≤a0_Legs.length∧p.2.1=((p.1:Nat):Int)∧bm G.real TE.real (List.drop p.1 a0_Legs) p.2.2.1 p.2.2.2=some o1} (fun⟨⟨k1,v1,w1,w2⟩,_⟩=>({sl:=[(3,.c (.m 0)),(4,.c (.f 1 1 0 (dlen (d_S w2)))),(12,.c (.r (.s 6 (r_Leg a0_Legs)))),(13,.c (.r (.v (.int .i64 (llen (r_Leg a0_Legs)))))),(14,.c (.r (.v (.int .i64 v1))))],tab:=[(0,some (.ms w1)),(1,some (.arr 1 (d_S w2)))]}:St)) 2 (fun p=>a0_Legs.length-p.1.1) ⟨(0,0,[],l1),Nat.zero_le _,rfl,ho1⟩ (List ByteArray) (fun y2=>({sl:=[(4,.c (.f 0 1 0 (dlen (d_S y2))))],tab:=[(0,some (.arr 1 (d_S y2)))]}:St)) 1 (fun y=>o1=y) ?_ ?_ ?_
 ·refine Wk.of [(0,some 32),(1,some 64)] rfl rfl ?_ ?_
  ·cbv;all_goals exact⟨⟨_,rfl,rfl⟩,⟨_,rfl,rfl⟩,⟨_,rfl,rfl⟩,⟨_,rfl,rfl⟩,⟨_,rfl,rfl⟩,trivial⟩
  cbv;all_goals exact⟨⟨_,rfl,rfl⟩,⟨_,rfl,rfl⟩,trivial⟩
 ·rintro⟨⟨k1,v1,w1,w2⟩,hk1,hi1,h_1⟩ hq1;have hm1:=(hq1.1 12 _ _ rfl);try dsimp only at hk1 hi1 h_1
  clear hq1;cbv
  by_cases hc1_:k1<a0_Legs.length
  ·have hb1:lt v1 (llen (r_Leg a0_Legs))=true:=cv hg ht hi1 hc1_;have hs1:=dY hg ht hi1 hc1_ hm1;obtain⟨z1,hz1⟩:=aV hc1_;rw[aF hz1] at h_1;rw[bm] at h_1;obtain⟨z1_From,z1_To,z1_Start,z1_Takes,z1_Days,z1_Room⟩:=z1;try rw[←hg] at h_1
   try rw[←ht] at h_1
   try dsimp only at h_1
   rw[hb1];cbv;refine AStep.mk (fR hi1) ?_;cbv;refine AGet.mk _ (dw hg ht hi1 hz1) ?_;cbv;obtain⟨l2,hl2,h_1⟩:=am h_1;try dsimp only at h_1
   refine ANew.mk (d_S l2) (dlen (d_S l2)) (by rw[←hl2];exact eF hg ht [z1_From,z1_To]) (by rw[←hl2];exact dk hg ht [z1_From,z1_To]) ?_;cbv;obtain⟨hB2,h_1⟩:=ah h_1;obtain⟨o2,ho2,h_1⟩:=ai h_1;try dsimp only at h_1
   try rw[hg] at ho2
   try rw[ht] at ho2
   refine ABL.mk {p:Nat×Int×(List ByteArray)×List ByteArray//p.1=a9 p.2.1 (int (dlen (d_S l2)))∧0≤p.2.1∧ba G.real TE.real l2 p.1 p.2.1 p.2.2.1 p.2.2.2=some o2} (fun⟨⟨n2,v2,w3,w4⟩,_⟩=>({sl:=[(3,.c (.m 0)),(4,.c (.f 1 1 0 (dlen (d_S w4)))),(12,.c (.r (.s 6 (r_Leg a0_Legs)))),(13,.c (.r (.v (.int .i64 (llen (r_Leg a0_Legs)))))),(14,.c (.r (.v (.int .i64 v1)))),(22,.c (.f 2 1 0 (dlen (d_S l2)))),(23,.c (.r (.v (.int .i64 (int (dlen (d_S l2))))))),(24,.c (.r (.v (.int .i64 v2))))],tab:=[(0,some (.ms w3)),(1,some (.arr 1 (d_S w4))),(2,some (.arr 1 (d_S l2)))]}:St)) 3 (fun p=>p.1.1) ⟨(a9 0 (int (dlen (d_S l2))),0,w1,w2),rfl,Int.le_refl _,ho2⟩ ((List ByteArray)×List ByteArray) (fun⟨y1_1,y1_2⟩=>({sl:=[(3,.c (.m 0)),(4,.c (.f 1 1 0 (dlen (d_S y1_2)))),(12,.c (.r (.s 6 (r_Leg a0_Legs)))),(13,.c (.r (.v (.int .i64 (llen (r_Leg a0_Legs)))))),(14,.c (.r (.v (.int .i64 v1))))],tab:=[(0,some (.ms y1_1)),(1,some (.arr 1 (d_S y1_2)))]}:St)) 2 (fun y=>o2=y) ?_ ?_ ?_
   ·refine Wk.of [(0,some 0),(1,some 1),(2,some 146)] rfl rfl ?_ ?_
    ·cbv;all_goals exact⟨⟨_,rfl,rfl⟩,⟨_,rfl,rfl⟩,⟨_,rfl,rfl⟩,⟨_,rfl,rfl⟩,⟨_,rfl,rfl⟩,⟨_,rfl,rfl⟩,⟨_,rfl,rfl⟩,⟨_,rfl,rfl⟩,trivial⟩
    cbv;all_goals exact⟨⟨_,rfl,rfl⟩,⟨_,rfl,rfl⟩,⟨_,rfl,rfl⟩,trivial⟩
   ·rintro⟨⟨n2,v2,w3,w4⟩,hn2,hi2,h_2⟩ hq2;try dsimp only at hn2 hi2 h_2
    clear hq2;cbv;rcases n2 with _|n2
    ·have hb2:lt v2 (int (dlen (d_S l2)))=false:=dT hg hn2;rw[ba] at h_2;try rw[←hg] at h_2
     try rw[←ht] at h_2
     try dsimp only at h_2
     rw[hb2];cbv;refine⟨(w3,w4),Wk.of [(0,some 0),(1,some 1)] rfl rfl ?_ ?_,(Option.some.inj h_2).symm⟩
     ·cbv;all_goals exact⟨⟨_,rfl,rfl⟩,⟨_,rfl,rfl⟩,⟨_,rfl,rfl⟩,⟨_,rfl,rfl⟩,⟨_,rfl,rfl⟩,trivial⟩
     cbv;all_goals exact⟨⟨_,rfl,rfl⟩,⟨_,rfl,rfl⟩,trivial⟩
    have hb2:lt v2 (int (dlen (d_S l2)))=true:=eG hg hn2;have hl2:=iI hn2;have hs2:=gg hg hn2 hi2 hB2 (by decide);rw[ba] at h_2;try rw[←hg] at h_2
    try rw[←ht] at h_2
    try dsimp only at h_2
    rw[hb2];cbv;refine AStep.mk (pB hg hi2 hl2) ?_;cbv;obtain⟨x1,hx1,h_2⟩:=dc h_2;try dsimp only at h_2
    refine AGet.mk _ (f8 hg ht hx1) ?_;cbv
    cases hb3:(hasS w3 x1)
    rotate_left
    ·rw[ab hb3] at h_2;cbv;try rw[hg] at h_2
     try rw[ht] at h_2
     refine⟨⟨(n2,(wrap .i64 (add v2 1)),w3,w4),hs2.1,hs2.2,h_2⟩,Wk.of [(0,some 0),(1,some 1),(2,some 2)] rfl rfl ?_ ?_,Nat.lt_succ_self _⟩
     ·cbv;all_goals exact⟨⟨_,rfl,rfl⟩,⟨_,rfl,rfl⟩,⟨_,rfl,rfl⟩,⟨_,rfl,rfl⟩,⟨_,rfl,rfl⟩,⟨_,rfl,rfl⟩,⟨_,rfl,rfl⟩,⟨_,rfl,rfl⟩,trivial⟩
     cbv;all_goals exact⟨⟨_,rfl,rfl⟩,⟨_,rfl,rfl⟩,⟨_,rfl,rfl⟩,trivial⟩
    rw[aa hb3] at h_2;cbv;obtain⟨l3,hl3,h_2⟩:=am h_2;try dsimp only at h_2
    refine ANew.mk (d_S l3) (dlen (d_S l3)) (by rw[←hl3];exact eF hg ht [x1]) (by rw[←hl3];exact dk hg ht [x1]) ?_;cbv;obtain⟨hc1,h_2⟩:=ah h_2;refine AStep.mk ⟨⟨rfl,(an hg ht _)⟩,(bK hg ht (an hg ht _) rfl hc1)⟩ ?_;cbv;obtain⟨l4,hl4,h_2⟩:=am h_2;try dsimp only at h_2
    refine ANew.mk (d_S l4) (dlen (d_S l4)) (by rw[←hl4];exact eE hg ht (an hg ht _) rfl) (by rw[←hl4];exact de hg ht (an hg ht _) rfl) ?_;cbv;try rw[hg] at h_2
    try rw[ht] at h_2
    refine⟨⟨(n2,(wrap .i64 (add v2 1)),(putS w3 x1),l4),hs2.1,hs2.2,h_2⟩,Wk.of [(0,some 0),(1,some 227),(2,some 2)] rfl rfl ?_ ?_,Nat.lt_succ_self _⟩
    ·cbv;all_goals exact⟨⟨_,rfl,rfl⟩,⟨_,rfl,rfl⟩,⟨_,rfl,rfl⟩,⟨_,rfl,rfl⟩,⟨_,rfl,rfl⟩,⟨_,rfl,rfl⟩,⟨_,rfl,rfl⟩,⟨_,rfl,rfl⟩,trivial⟩
    cbv;all_goals exact⟨⟨_,rfl,rfl⟩,⟨_,rfl,rfl⟩,⟨_,rfl,rfl⟩,trivial⟩
   rintro⟨y1_1,y1_2⟩ hy2;replace hy2:=hy2.symm;subst hy2;try dsimp only[lr,lrL,lrp,bQ] at h_1
   cbv;try rw[hg] at h_1
   try rw[ht] at h_1
   refine⟨⟨(k1+1,(wrap .i64 (add v1 1)),y1_1,y1_2),hc1_,hs1,h_1⟩,Wk.of [(0,some 0),(1,some 1)] rfl rfl ?_ ?_,cF hc1_⟩
   ·cbv;all_goals exact⟨⟨_,rfl,rfl⟩,⟨_,rfl,rfl⟩,⟨_,rfl,rfl⟩,⟨_,rfl,rfl⟩,⟨_,rfl,rfl⟩,trivial⟩
   cbv;all_goals exact⟨⟨_,rfl,rfl⟩,⟨_,rfl,rfl⟩,trivial⟩
  have hb1:lt v1 (llen (r_Leg a0_Legs))=false:=ci hg ht hi1 hc1_;rw[List.drop_of_length_le (Nat.le_of_not_lt hc1_)] at h_1;rw[bm] at h_1;try rw[←hg] at h_1
  try rw[←ht] at h_1
  try dsimp only at h_1
  rw[hb1];cbv;refine⟨w2,Wk.of [(0,some 1)] rfl rfl ?_ ?_,(Option.some.inj h_1).symm⟩
  ·cbv;all_goals exact⟨⟨_,rfl,rfl⟩,trivial⟩
  cbv;all_goals exact⟨⟨_,rfl,rfl⟩,trivial⟩
 rintro y2 hy1;replace hy1:=hy1.symm;subst hy1;try dsimp only[lr,lrL,lrp,bQ] at h
 cbv;refine AStep.mk ⟨rfl,(an hg ht _)⟩ ?_;cbv;obtain⟨x2,hx2,h⟩:=ai h;try dsimp only at h
 refine ACallM.mk _ _ _ _ rfl rfl (hF _ _ _ (iD hg ht hx2)) rfl (nb rfl) (nb rfl) ?_;cbv;obtain⟨hc2,h⟩:=ah h;obtain rfl:=Option.some.inj h;exact ARet.mk ⟨rfl,(u9 ht (an hg ht _) hc2)⟩ hX.symm
def ir97:J:=js [jq 3 (.box 0),jm 6 kf] [1,2,3] (.seq (js [jm 9 1,jb 10 .lss .i 9 (ki 0),jm 11 10,jv 12 11 (.mv 1),jv 13 11 (.fa 0 3),jv 14 11 (.ld false 1 13),jv 15 11 (.len false 14),jv 16 11 (.bin .geq .i 12 15),jq 17 (.pick 11 kt 16),jm 18 17,jv 19 18 (.mv 2),jv 20 18 (.call 34 true [19,(ki 0),(ki 60)]),jv 21 18 (.not 20),jq 22 (.pick 18 kt 21),jm 23 22,jv 24 23 (.fa 0 3),jv 25 23 (.ld false 1 24),jv 26 23 (.mv 1),jv 27 23 (.ia 6 25 26),jv 28 23 (.fa 4 27),jv 29 23 (.ld false 1 28),jv 30 23 (.mv 2),jv 31 23 (.bin .rem .i 30 (ki 7)),jv 32 23 (.bin .shr .i 29 31),jv 33 23 (.bin .and .i 32 (ki 1)),jv 34 23 (.bin .eql .i 33 (ki 0)),jq 35 (.pick 23 kt 34)] [2,3,35] (.cond 35 (js [jm 6 kf] [6] .ret) .skip)) (.seq (js [jf 36 1 3,jk 37 36,jq 38 (.len false 37),jm 39 (ki 0)] [2,37,38,39] (.bl 0 (js [jb 40 .lss .i 39 38] [2,37,38,39,40] (.seq (.cond 40 .skip (.exit 0)) (.seq (.block 1 (js [ja 41 1 37 39,jk 42 41,jm 8 42] [2,8,37,38,39] (js [jm 43 8,jm 44 2,jb 45 .eql .i 43 44] [2,37,38,39,45] (.cond 45 (js [jm 6 kf] [6] .ret) .skip)))) (.reg none [jb 46 .add .i 39 (ki 1),jm 39 46] [2,37,38,39])))))) (js [jm 6 kt] [6] .ret)))
def rv97:List RV:=[.t 6]
def cS (g:G) (t:TE) (a2:Int):List Int→LR Bool Unit
 |[]=>
  (LR.out ())
 |z1::ls1=>
  br (g.eq z1 a2)
  (
   (LR.ret false))
  (
   cS g t a2 ls1)
def iJ (g:G) (t:TE) (a0:Network) (a1:Int) (a2:Int):Option Bool:=
 br (g.lt a1 0)
 (
  some false)
 (
  br (g.le (g.llen (t.r_Leg a0.Legs)) a1)
  (
   some false)
  (
   lP (bw g t a2 0 60) fun x1=>
   br x1
   (
    gd (((0:Int)≤a1))<|
    gt a0.Legs (g.nat a1) fun x2=>
    gd (((0:Int)≤(g.rem a2 7)))<|
    br (g.eq (g.band .i64 (g.shr .i64 x2.Days (g.rem a2 7)) 1) 0)
    (
     some false)
    (
     lP (cS g t a2 a0.Off) fun o1=>lr o1 fun y1=>
     some true))
   (
    some false)))
theorem sW {g:G} {t:TE} {a0:Network} {a1:Int} {a2:Int} {r:Bool} (hg:g=G.real) (ht:t=TE.real) (h:iJ g t a0 a1 a2=some r):Fn Tryz.prog 97 [.g (Network.rs t a0),.c (.v (.int .i64 a1)),.c (.v (.int .i64 a2))] (.c (.r (.v (.bool r)))):=by
 obtain⟨X,hX⟩:=bg (.c (.r (.v (.bool r))):X);rw[←hX];refine aD (rvs:=rv97) (j:=ir97) Tryz.func97 rfl (by kernel_rfl) (nb rfl) (by kernel_rfl) ae ?_;intro g2 F hg2 hF;obtain rfl:g2=g:=hg2.unique.trans hg.symm;clear hg2;obtain⟨wrap,lt,le,eq,_,rem,band,_,_,_,shr,_,_,add,_,_,_,_,_,_,_,llen⟩:=g2;obtain⟨_,_,r_Leg,_,r_I64⟩:=t;obtain⟨a0_Legs,a0_Off,a0_Change⟩:=a0
 unfold iJ at h;try dsimp only at h
 cbv
 cases hb1:(lt a1 0)
 rotate_left
 ·rw[ab hb1] at h;cbv;iterate 5 try(rw[hb1];cbv)
  obtain rfl:=Option.some.inj h;exact ARet.mk trivial hX.symm
 rw[aa hb1] at h;cbv;iterate 5 try(rw[hb1];cbv)
 cases hb2:(le (llen (r_Leg a0_Legs)) a1)
 rotate_left
 ·rw[ab hb2] at h;cbv;iterate 3 try(rw[hb2];cbv)
  obtain rfl:=Option.some.inj h;exact ARet.mk trivial hX.symm
 rw[aa hb2] at h;cbv;try(rw[hb2];cbv)
 obtain⟨x1,hx1,h⟩:=am h;try dsimp only at h
 refine ACall.mk _ _ rfl (hF _ _ _ (bE hg ht hx1)) (.inl rfl) (nb rfl) ?_;cbv;iterate 2 try(rw[hb2];cbv)
 cases hb3:x1
 ·rw[aa hb3] at h;cbv;iterate 11 try(rw[hb3];cbv)
  obtain rfl:=Option.some.inj h;exact ARet.mk trivial hX.symm
 rw[ab hb3] at h;cbv;iterate 3 try(rw[hb3];cbv)
 obtain⟨hc1,h⟩:=ah h;refine AStep.mk hc1 ?_;cbv;obtain⟨x2,hx2,h⟩:=dc h;obtain⟨x2_From,x2_To,x2_Start,x2_Takes,x2_Days,x2_Room⟩:=x2;try dsimp only at h
 refine AGet.mk _ (cg hg ht hx2) ?_;cbv;iterate 4 try(rw[hb3];cbv)
 refine AStep.mk (by decide) ?_;cbv;try(rw[hb3];cbv)
 obtain⟨hc2,h⟩:=ah h;refine AStep.mk hc2 ?_;cbv;iterate 3 try(rw[hb3];cbv)
 cases hb4:(eq (band .i64 (shr .i64 x2_Days (rem a2 7)) 1) 0)
 rotate_left
 ·rw[ab hb4] at h;cbv;obtain rfl:=Option.some.inj h;exact ARet.mk trivial hX.symm
 rw[aa hb4] at h;cbv;obtain⟨o1,ho1,h⟩:=am h;try dsimp only at h
 try rw[hg] at ho1
 try rw[ht] at ho1
 refine ABL.mk {p:Nat×Int//p.1≤a0_Off.length∧p.2=((p.1:Nat):Int)∧cS G.real TE.real a2 (List.drop p.1 a0_Off)=o1} (fun⟨⟨k1,v1⟩,_⟩=>({sl:=[(2,.c (.r (.v (.int .i64 a2)))),(37,.c (.r (.s 1 (r_I64 a0_Off)))),(38,.c (.r (.v (.int .i64 (llen (r_I64 a0_Off)))))),(39,.c (.r (.v (.int .i64 v1))))],tab:=[]}:St)) 0 (fun p=>a0_Off.length-p.1.1) ⟨(0,0),Nat.zero_le _,rfl,ho1⟩ (Unit) (fun _=>({sl:=[],tab:=[]}:St)) 0 (fun y=>o1=LR.out y) ?_ ?_ ?_
 ·refine Wk.of [] rfl rfl ?_ ?_
  ·cbv;all_goals exact⟨⟨_,rfl,rfl⟩,⟨_,rfl,rfl⟩,⟨_,rfl,rfl⟩,⟨_,rfl,rfl⟩,trivial⟩
  cbv;all_goals exact trivial
 ·rintro⟨⟨k1,v1⟩,hk1,hi1,h_1⟩ hq1;have hm1:=(hq1.1 37 _ _ rfl);try dsimp only at hk1 hi1 h_1
  clear hq1;cbv
  by_cases hc1_:k1<a0_Off.length
  ·have hb5:lt v1 (llen (r_I64 a0_Off))=true:=cw hg ht hi1 hc1_;have hs1:=dW hg ht hi1 hc1_ hm1;obtain⟨z1,hz1⟩:=aV hc1_;rw[aF hz1] at h_1;rw[cS] at h_1;try rw[←hg] at h_1
   try rw[←ht] at h_1
   try dsimp only at h_1
   rw[hb5];cbv;refine AStep.mk (fR hi1) ?_;cbv;refine AGet.mk _ (cM hg ht hi1 hz1) ?_;cbv
   cases hb6:(eq z1 a2)
   rotate_left
   ·rw[ab hb6] at h_1;cbv;subst h_1;try dsimp only[lr,lrL,lrp,bQ] at h
    obtain rfl:=Option.some.inj h;exact ARet.mk trivial hX.symm
   rw[aa hb6] at h_1;cbv;try rw[hg] at h_1
   try rw[ht] at h_1
   refine⟨⟨(k1+1,(wrap .i64 (add v1 1))),hc1_,hs1,h_1⟩,Wk.of [] rfl rfl ?_ ?_,cF hc1_⟩
   ·cbv;all_goals exact⟨⟨_,rfl,rfl⟩,⟨_,rfl,rfl⟩,⟨_,rfl,rfl⟩,⟨_,rfl,rfl⟩,trivial⟩
   cbv;all_goals exact trivial
  have hb5:lt v1 (llen (r_I64 a0_Off))=false:=ch hg ht hi1 hc1_;rw[List.drop_of_length_le (Nat.le_of_not_lt hc1_)] at h_1;rw[cS] at h_1;try rw[←hg] at h_1
  try rw[←ht] at h_1
  try dsimp only at h_1
  rw[hb5];cbv;refine⟨(),Wk.of [] rfl rfl ?_ ?_,h_1.symm⟩
  ·cbv;all_goals exact trivial
  cbv;all_goals exact trivial
 rintro _ hy1;replace hy1:=hy1.symm;subst hy1;try dsimp only[lr,lrL,lrp,bQ] at h
 cbv;obtain rfl:=Option.some.inj h;exact ARet.mk trivial hX.symm
def ir71:J:=js [jq 3 (.box 0),jm 6 kf] [1,2,3] (js [jl 7 3 3,jc 8 33 [7],jm 9 8,ju 10 9 (.ld true 3 3),ju 11 9 (.mv 1),ju 12 9 (.mv 2),ju 13 9 (.call 97 true [10,11,12]),jq 14 (.pick 9 13 kf),jm 6 14] [6] .ret)
def rv71:List RV:=[.t 6]
def iy (g:G) (t:TE) (a0:Network) (a1:Int) (a2:Int):Option Bool:=
 cl (ct g t a0) fun x1=>
 br x1
 (
  cl (iJ g t a0 a1 a2) fun x2=>
  some x2)
 (
  some false)
theorem pm {g:G} {t:TE} {a0:Network} {a1:Int} {a2:Int} {r:Bool} (hg:g=G.real) (ht:t=TE.real) (h:iy g t a0 a1 a2=some r):Fn Tryz.prog 71 [.g (Network.rs t a0),.c (.v (.int .i64 a1)),.c (.v (.int .i64 a2))] (.c (.r (.v (.bool r)))):=by
 obtain⟨X,hX⟩:=bg (.c (.r (.v (.bool r))):X);rw[←hX];refine aD (rvs:=rv71) (j:=ir71) Tryz.func71 rfl (by kernel_rfl) (nb rfl) (by kernel_rfl) ae ?_;intro g2 F hg2 hF;obtain rfl:g2=g:=hg2.unique.trans hg.symm;clear hg2;obtain⟨_⟩:=g2;obtain⟨_⟩:=t;obtain⟨a0_Legs,a0_Off,a0_Change⟩:=a0
 unfold iy at h;try dsimp only at h
 cbv;obtain⟨x1,hx1,h⟩:=ai h;try dsimp only at h
 refine ACall.mk _ _ rfl (hF _ _ _ (gq hg ht hx1)) (.inl rfl) (nb rfl) ?_;cbv
 cases hb1:x1
 ·rw[aa hb1] at h;cbv;iterate 4 try(rw[hb1];cbv)
  obtain rfl:=Option.some.inj h;exact ARet.mk trivial hX.symm
 rw[ab hb1] at h;cbv;iterate 3 try(rw[hb1];cbv)
 obtain⟨x2,hx2,h⟩:=ai h;try dsimp only at h
 refine ACall.mk _ _ rfl (hF _ _ _ (sW hg ht hx2)) (.inl rfl) (nb rfl) ?_;cbv;try(rw[hb1];cbv)
 obtain rfl:=Option.some.inj h;exact ARet.mk trivial hX.symm
def ir37:J:=js [jq 2 (.box 0),jq 3 (.box 1),jm 4 kf] [2,3] (js [jl 5 3 2,jf 6 0 3,jk 7 6,jf 8 1 3,jk 9 8,jc 10 71 [5,7,9],jm 4 10] [4] .ret)
def rv37:List RV:=[.t 4]
def eb (g:G) (t:TE) (a0:Network) (a1:Trip):Option Bool:=
 cl (iy g t a0 a1.Leg a1.Day) fun x1=>
 some x1
theorem ka {g:G} {t:TE} {a0:Network} {a1:Trip} {r:Bool} (hg:g=G.real) (ht:t=TE.real) (h:eb g t a0 a1=some r):Fn Tryz.prog 37 [.g (Network.rs t a0),.g (Trip.rs t a1)] (.c (.r (.v (.bool r)))):=by
 obtain⟨X,hX⟩:=bg (.c (.r (.v (.bool r))):X);rw[←hX];refine aD (rvs:=rv37) (j:=ir37) Tryz.func37 rfl (by kernel_rfl) (nb rfl) (by kernel_rfl) ae ?_;intro g2 F hg2 hF;obtain rfl:g2=g:=hg2.unique.trans hg.symm;clear hg2;obtain⟨_⟩:=g2;obtain⟨_⟩:=t;obtain⟨a0_Legs,a0_Off,a0_Change⟩:=a0
 obtain⟨a1_Leg,a1_Day⟩:=a1;unfold eb at h;try dsimp only at h
 cbv;obtain⟨x1,hx1,h⟩:=ai h;try dsimp only at h
 refine ACall.mk _ _ rfl (hF _ _ _ (pm hg ht hx1)) (.inl rfl) (nb rfl) ?_;cbv;obtain rfl:=Option.some.inj h;exact ARet.mk trivial hX.symm
def ir38:J:=js [jq 2 (.box 0),jq 3 (.box 1),jm 4 (ki 0)] [2,3] (.seq (.reg (some [[],[0],[0,1],[],[3],[],[5],[3,4,5,6],[3,4,5,6,7],[3,4,5,6,7,8],[0,1,2,3,4,5,6,7,8,9],[0,1,2,3,4,5,6,7,8,9,10]]) [jf 5 1 3,jk 6 5,jb 7 .mul .i 6 (ki 1440),jf 8 0 2,jk 9 8,jf 10 0 3,jk 11 10,ja 12 6 9 11,jf 13 2 12,jk 14 13,jb 15 .add .i 7 14,jm 4 15] [4]) .ret)
def rv38:List RV:=[.t 4]
def eD (g:G) (t:TE) (a0:Network) (a1:Trip):Option Int:=
 gd (((0:Int)≤a1.Leg))<|
 gt a0.Legs (g.nat a1.Leg) fun x1=>
 some (g.wrap .i64 (g.add (g.wrap .i64 (g.mul a1.Day 1440)) x1.Start))
theorem lk {g:G} {t:TE} {a0:Network} {a1:Trip} {r:Int} (hg:g=G.real) (ht:t=TE.real) (h:eD g t a0 a1=some r):Fn Tryz.prog 38 [.g (Network.rs t a0),.g (Trip.rs t a1)] (.c (.r (.v (.int .i64 r)))):=by
 obtain⟨X,hX⟩:=bg (.c (.r (.v (.int .i64 r))):X);rw[←hX];refine aD (rvs:=rv38) (j:=ir38) Tryz.func38 rfl (by kernel_rfl) (nb rfl) (by kernel_rfl) ae ?_;intro g2 F hg2 hF;obtain rfl:g2=g:=hg2.unique.trans hg.symm;clear hg2;obtain⟨_⟩:=g2;obtain⟨_⟩:=t;obtain⟨a0_Legs,a0_Off,a0_Change⟩:=a0
 obtain⟨a1_Leg,a1_Day⟩:=a1;unfold eD at h;try dsimp only at h
 cbv;obtain⟨hc1,h⟩:=ah h;refine AStep.mk hc1 ?_;cbv;obtain⟨x1,hx1,h⟩:=dc h;obtain⟨x1_From,x1_To,x1_Start,x1_Takes,x1_Days,x1_Room⟩:=x1;try dsimp only at h
 refine AGet.mk _ (cg hg ht hx1) ?_;cbv;obtain rfl:=Option.some.inj h;exact ARet.mk trivial hX.symm
def ir39:J:=js [jq 2 (.box 0),jq 3 (.box 1),jm 4 (ki 0)] [2,3] (.seq (.reg (some [[],[],[0,1],[],[3],[],[5],[3,4,5,6],[3,4,5,6,7],[3,4,5,6,7,8],[0,1,2,3,4,5,6,7,8,9],[0,1,2,3,4,5,6,7,8,9,10]]) [jl 5 3 2,jl 6 2 3,jc 7 38 [5,6],jf 8 0 2,jk 9 8,jf 10 0 3,jk 11 10,ja 12 6 9 11,jf 13 3 12,jk 14 13,jb 15 .add .i 7 14,jm 4 15] [4]) .ret)
def rv39:List RV:=[.t 4]
def jZ (g:G) (t:TE) (a0:Network) (a1:Trip):Option Int:=
 cl (eD g t a0 a1) fun x1=>
 gd (((0:Int)≤a1.Leg))<|
 gt a0.Legs (g.nat a1.Leg) fun x2=>
 some (g.wrap .i64 (g.add x1 x2.Takes))
theorem tD {g:G} {t:TE} {a0:Network} {a1:Trip} {r:Int} (hg:g=G.real) (ht:t=TE.real) (h:jZ g t a0 a1=some r):Fn Tryz.prog 39 [.g (Network.rs t a0),.g (Trip.rs t a1)] (.c (.r (.v (.int .i64 r)))):=by
 obtain⟨X,hX⟩:=bg (.c (.r (.v (.int .i64 r))):X);rw[←hX];refine aD (rvs:=rv39) (j:=ir39) Tryz.func39 rfl (by kernel_rfl) (nb rfl) (by kernel_rfl) ae ?_;intro g2 F hg2 hF;obtain rfl:g2=g:=hg2.unique.trans hg.symm;clear hg2;obtain⟨_⟩:=g2;obtain⟨_⟩:=t;obtain⟨a0_Legs,a0_Off,a0_Change⟩:=a0
 obtain⟨a1_Leg,a1_Day⟩:=a1;unfold jZ at h;try dsimp only at h
 cbv;obtain⟨x1,hx1,h⟩:=ai h;try dsimp only at h
 refine ACall.mk _ _ rfl (hF _ _ _ (lk hg ht hx1)) (.inl rfl) (nb rfl) ?_;cbv;obtain⟨hc1,h⟩:=ah h;refine AStep.mk hc1 ?_;cbv;obtain⟨x2,hx2,h⟩:=dc h;obtain⟨x2_From,x2_To,x2_Start,x2_Takes,x2_Days,x2_Room⟩:=x2;try dsimp only at h
 refine AGet.mk _ (cg hg ht hx2) ?_;cbv;obtain rfl:=Option.some.inj h;exact ARet.mk trivial hX.symm
def ir10 (s_k0:ByteArray):J:=js [jq 2 (.box 0),jq 3 (.box 1),jm 4 kf] [2,3] (.seq (js [jl 5 3 2,jc 6 33 [5],jq 7 (.not 6),jm 8 7,jv 9 8 (.fa 0 3),jv 10 8 (.ld false 1 9),jv 11 8 (.call 34 true [10,(ki 1),(ki 9999)]),jv 12 8 (.not 11),jq 13 (.pick 8 kt 12),jm 14 13,jv 15 14 (.fa 1 3),jv 16 14 (.ld false 1 15),jv 17 14 (.call 34 true [16,(ki 0),(ki 100000)]),jv 18 14 (.not 17),jq 19 (.pick 14 kt 18)] [2,3,19] (.cond 19 (js [jm 4 kf] [4] .ret) .skip)) (.seq (js [jf 20 2 3,jk 21 20] [2,3,21] (.block 0 (.seq (js [jb 23 .eql .i 21 (ki 1),jm 22 23] [2,3,21,22] (.cond 22 .skip (.reg none [jb 24 .eql .i 21 (ki 4),jm 22 24] [2,3,21,22]))) (.cond 22 (.seq (.reg (some [[],[0],[],[2],[0,1,2,3],[0,1,2,3,4],[0,1,2,3,4,5],[0,1,2,3,4,5,6],[0,1,2,3,4,5,6,7],[0,1,2,3,4,5,6],[0,1,2,3,4,5,6,7,8,9],[0,1,2,3,4,5,6,7,8,9,10],[0,1,2,3,4,5,6,7,8,9,10,11]]) [jl 25 3 2,jc 26 36 [25],jf 27 3 3,jk 28 27,jc 29 35 [26,28],jb 30 .geq .i 29 (ki 0),jm 31 30,ju 32 31 (.fa 4 3),ju 33 31 (.ld true 2 32),ju 34 31 (.bld [.r (.v (.int .i64 0)),.r (.v (.int .i64 0))] []),ju 35 31 (.eqs false [.i,.i] 33 34),jq 36 (.pick 31 35 kf),jm 4 36] [4]) .ret) (js [jb 38 .eql .i 21 (ki 3),jm 37 38] [2,3,21,37] (.cond 37 (.seq (.reg (some [[],[0],[0,1],[0,1,2],[0,1,2,3],[0,1,2,3],[0,1,2,3,5],[0,1,2,3,4,5,6],[0,1,2,3,4,5,6,7],[0,1,2,3,4,5,6,7,8],[0,1,2,3,4,5,6,7,8,9],[0,1,2,3,4,5,6,7,8,9,10],[0,1,2,3,4,5,6,7,8,9],[0,1,2,3,4,5,6,7,8,9],[0,1,2,3,4,5,6,7,8,9,13],[0,1,2,3,4,5,6,7,8,9,12,13,14],[0,1,2,3,4,5,6,7,8,9,10,11,12,13,14,15],[0,1,2,3,4,5,6,7,8,9,10,11,12,13,14,15,16],[0,1,2,3,4,5,6,7,8,9,10,11,12,13,14,15,16,17]]) [jf 39 3 3,jk 40 39,jq 41 (.bin .eql .s 40 (.k (.c (.r (.v (.string s_k0)))))),jm 42 41,ju 43 42 (.ld true 3 2),ju 44 42 (.fa 4 3),ju 45 42 (.ld true 2 44),ju 46 42 (.call 37 true [43,45]),jq 47 (.pick 42 46 kf),jm 48 47,ju 49 48 (.fa 1 3),ju 50 48 (.ld false 1 49),ju 51 48 (.ld true 3 2),ju 52 48 (.fa 4 3),ju 53 48 (.ld true 2 52),ju 54 48 (.call 38 true [51,53]),ju 55 48 (.bin .leq .i 50 54),jq 56 (.pick 48 55 kf),jm 4 56] [4]) .ret) (js [jb 58 .eql .i 21 (ki 2),jm 57 58] [2,3,57] (.cond 57 (.seq (.reg (some [[],[0],[0,1],[0,1,2],[0,1,2,3],[0,1,2,3],[0,1,2,3,5],[0,1,2,3,4,5,6],[0,1,2,3,4,5,6,7],[0,1,2,3,4,5,6,7,8],[0,1,2,3,4,5,6,7,8,9],[0,1,2,3,4,5,6,7,8,9,10],[0,1,2,3,4,5,6,7,8,9],[0,1,2,3,4,5,6,7,8,9],[0,1,2,3,4,5,6,7,8,9,13],[0,1,2,3,4,5,6,7,8,9,12,13,14],[0,1,2,3,4,5,6,7,8,9,10,11,12,13,14,15],[0,1,2,3,4,5,6,7,8,9,10,11,12,13,14,15,16],[0,1,2,3,4,5,6,7,8,9,10,11,12,13,14,15,16,17]]) [jf 59 3 3,jk 60 59,jq 61 (.bin .eql
 .s 60 (.k (.c (.r (.v (.string s_k0)))))),jm 62 61,ju 63 62 (.ld true 3 2),ju 64 62 (.fa 4 3),ju 65 62 (.ld true 2 64),ju 66 62 (.call 37 true [63,65]),jq 67 (.pick 62 66 kf),jm 68 67,ju 69 68 (.fa 1 3),ju 70 68 (.ld false 1 69),ju 71 68 (.ld true 3 2),ju 72 68 (.fa 4 3),ju 73 68 (.ld true 2 72),ju 74 68 (.call 39 true [71,73]),ju 75 68 (.bin .geq .i 70 74),jq 76 (.pick 68 75 kf),jm 4 76] [4]) .ret) .skip)))))))) (js [jm 4 kf] [4] .ret)))
def rv10:List RV:=[.t 4]
def fz (g:G) (t:TE) (a0:Network) (a1:Scan):Option Bool:=
 cl (ct g t a0) fun x1=>
 br x1
 (
  lP (bw g t a1.Thing 1 9999) fun x2=>
  br x2
  (
   lP (bw g t a1.At 0 100000) fun x3=>
   br x3
   (
    br (g.eq a1.Kind 1)
    (
     cl (dj g t a0) fun x4=>
     lP (dt g t x4 a1.Place) fun x5=>
     br (g.le 0 x5)
     (
      some (g.all [(g.eq a1.Trip.Leg 0),(g.eq a1.Trip.Day 0)]))
     (
      some false))
    (
     br (g.eq a1.Kind 4)
     (
      cl (dj g t a0) fun x6=>
      lP (dt g t x6 a1.Place) fun x7=>
      br (g.le 0 x7)
      (
       some (g.all [(g.eq a1.Trip.Leg 0),(g.eq a1.Trip.Day 0)]))
      (
       some false))
     (
      br (g.eq a1.Kind 3)
      (
       br (g.seq a1.Place str_k0)
       (
        cl (eb g t a0 (Trip.mk a1.Trip.Leg a1.Trip.Day)) fun x8=>
        br x8
        (
         cl (eD g t a0 (Trip.mk a1.Trip.Leg a1.Trip.Day)) fun x9=>
         some (g.le a1.At x9))
        (
         some false))
       (
        some false))
      (
       br (g.eq a1.Kind 2)
       (
        br (g.seq a1.Place str_k0)
        (
         cl (eb g t a0 (Trip.mk a1.Trip.Leg a1.Trip.Day)) fun x10=>
         br x10
         (
          cl (jZ g t a0 (Trip.mk a1.Trip.Leg a1.Trip.Day)) fun x11=>
          some (g.le x11 a1.At))
         (
          some false))
        (
         some false))
       (
        some false)))))
   (
    some false))
  (
   some false))
 (
  some false)
theorem pt {g:G} {t:TE} {a0:Network} {a1:Scan} {r:Bool} (hg:g=G.real) (ht:t=TE.real) (h:fz g t a0 a1=some r):Fn Tryz.prog 10 [.g (Network.rs t a0),.g (Scan.rs t a1)] (.c (.r (.v (.bool r)))):=by
 obtain⟨X,hX⟩:=bg (.c (.r (.v (.bool r))):X);rw[←hX];refine aD (rvs:=rv10) (j:=(ir10 str_k0)) Tryz.func10 rfl (by kernel_rfl) (nb rfl) (by kernel_rfl) ae ?_;intro g2 F hg2 hF;obtain rfl:g2=g:=hg2.unique.trans hg.symm;clear hg2;obtain⟨_,_,le,eq,_,_,_,_,_,_,_,_,_,_,_,_,_,seq,_,_,_,_,_,_,dlen,_,_,_,rd⟩:=g2;obtain⟨_,_,_,_,_,_,r_S,d_S⟩:=t;obtain⟨a0_Legs,a0_Off,a0_Change⟩:=a0
 obtain⟨a1_Thing,a1_At,a1_Kind,a1_Place,⟨a1_Trip_Leg,a1_Trip_Day⟩⟩:=a1;unfold fz at h;try dsimp only at h
 obtain⟨s_k0,hs_k0⟩:∃s,str_k0=s:=⟨_,rfl⟩;try rw[hs_k0] at h
 rw[hs_k0];cbv;obtain⟨x1,hx1,h⟩:=ai h;try dsimp only at h
 refine ACall.mk _ _ rfl (hF _ _ _ (gq hg ht hx1)) (.inl rfl) (nb rfl) ?_;cbv
 cases hb1:x1
 ·rw[aa hb1] at h;cbv;iterate 4 try(rw[hb1];cbv)
  obtain rfl:=Option.some.inj h;exact ARet.mk trivial hX.symm
 rw[ab hb1] at h;cbv;iterate 2 try(rw[hb1];cbv)
 obtain⟨x2,hx2,h⟩:=am h;try dsimp only at h
 refine ACall.mk _ _ rfl (hF _ _ _ (bE hg ht hx2)) (.inl rfl) (nb rfl) ?_;cbv;iterate 2 try(rw[hb1];cbv)
 cases hb2:x2
 ·rw[aa hb2] at h;cbv;iterate 4 try(rw[hb2];cbv)
  obtain rfl:=Option.some.inj h;exact ARet.mk trivial hX.symm
 rw[ab hb2] at h;cbv;iterate 2 try(rw[hb2];cbv)
 obtain⟨x3,hx3,h⟩:=am h;try dsimp only at h
 refine ACall.mk _ _ rfl (hF _ _ _ (bE hg ht hx3)) (.inl rfl) (nb rfl) ?_;cbv;iterate 2 try(rw[hb2];cbv)
 cases hb3:x3
 ·rw[aa hb3] at h;cbv;obtain rfl:=Option.some.inj h;exact ARet.mk trivial hX.symm
 rw[ab hb3] at h;cbv
 cases hb4:(eq a1_Kind 1)
 rotate_left
 ·rw[ab hb4] at h;cbv;try(rw[hb4];cbv)
  obtain⟨x4,hx4,h⟩:=ai h;try dsimp only at h
  refine ACall.mk _ _ rfl (hF _ _ _ (hY hg ht hx4)) (.inl rfl) (nb rfl) ?_;cbv;refine AStep.mk (nf ht (an hg ht _)) ?_;cbv;obtain⟨x5,hx5,h⟩:=am h;try dsimp only at h
  refine ACall.mk _ _ (by rw[show rd (d_S x4) 0 (dlen (d_S x4))=r_S x4 from pO hg ht (an hg ht _)];try rfl) (hF _ _ _ (jC hg ht hx5)) (.inr rfl) (nb rfl) ?_
  cbv
  cases hb5:(le 0 x5)
  rotate_left
  ·rw[ab hb5] at h;cbv;iterate 4 try(rw[hb5];cbv)
   obtain rfl:=Option.some.inj h;exact ARet.mk trivial hX.symm
  rw[aa hb5] at h;cbv;iterate 4 try(rw[hb5];cbv)
  obtain rfl:=Option.some.inj h;exact ARet.mk trivial hX.symm
 rw[aa hb4] at h;cbv
 cases hb6:(eq a1_Kind 4)
 rotate_left
 ·rw[ab hb6] at h;cbv;obtain⟨x6,hx6,h⟩:=ai h;try dsimp only at h
  refine ACall.mk _ _ rfl (hF _ _ _ (hY hg ht hx6)) (.inl rfl) (nb rfl) ?_;cbv;refine AStep.mk (nf ht (an hg ht _)) ?_;cbv;obtain⟨x7,hx7,h⟩:=am h;try dsimp only at h
  refine ACall.mk _ _ (by rw[show rd (d_S x6) 0 (dlen (d_S x6))=r_S x6 from pO hg ht (an hg ht _)];try rfl) (hF _ _ _ (jC hg ht hx7)) (.inr rfl) (nb rfl) ?_
  cbv
  cases hb7:(le 0 x7)
  rotate_left
  ·rw[ab hb7] at h;cbv;iterate 4 try(rw[hb7];cbv)
   obtain rfl:=Option.some.inj h;exact ARet.mk trivial hX.symm
  rw[aa hb7] at h;cbv;iterate 4 try(rw[hb7];cbv)
  obtain rfl:=Option.some.inj h;exact ARet.mk trivial hX.symm
 rw[aa hb6] at h;cbv
 cases hb8:(eq a1_Kind 3)
 rotate_left
 ·rw[ab hb8] at h;cbv
  cases hb9:(seq a1_Place s_k0)
  ·rw[aa hb9] at h;cbv;iterate 4 try(rw[hb9];cbv)
   obtain rfl:=Option.some.inj h;exact ARet.mk trivial hX.symm
  rw[ab hb9] at h;cbv;iterate 3 try(rw[hb9];cbv)
  obtain⟨x8,hx8,h⟩:=ai h;try dsimp only at h
  refine ACall.mk _ _ rfl (hF _ _ _ (ka hg ht hx8)) (.inl rfl) (nb rfl) ?_;cbv;try(rw[hb9];cbv)
  cases hb10:x8
  ·rw[aa hb10] at h;cbv;iterate 7 try(rw[hb10];cbv)
   obtain rfl:=Option.some.inj h;exact ARet.mk trivial hX.symm
  rw[ab hb10] at h;cbv;iterate 5 try(rw[hb10];cbv)
  obtain⟨x9,hx9,h⟩:=ai h;try dsimp only at h
  refine ACall.mk _ _ rfl (hF _ _ _ (lk hg ht hx9)) (.inl rfl) (nb rfl) ?_;cbv;iterate 2 try(rw[hb10];cbv)
  obtain rfl:=Option.some.inj h;exact ARet.mk trivial hX.symm
 rw[aa hb8] at h;cbv
 cases hb11:(eq a1_Kind 2)
 ·rw[aa hb11] at h;cbv;obtain rfl:=Option.some.inj h;exact ARet.mk trivial hX.symm
 rw[ab hb11] at h;cbv
 cases hb12:(seq a1_Place s_k0)
 ·rw[aa hb12] at h;cbv;iterate 4 try(rw[hb12];cbv)
  obtain rfl:=Option.some.inj h;exact ARet.mk trivial hX.symm
 rw[ab hb12] at h;cbv;iterate 3 try(rw[hb12];cbv)
 obtain⟨x10,hx10,h⟩:=ai h;try dsimp only at h
 refine ACall.mk _ _ rfl (hF _ _ _ (ka hg ht hx10)) (.inl rfl) (nb rfl) ?_;cbv;try(rw[hb12];cbv)
 cases hb13:x10
 ·rw[aa hb13] at h;cbv;iterate 7 try(rw[hb13];cbv)
  obtain rfl:=Option.some.inj h;exact ARet.mk trivial hX.symm
 rw[ab hb13] at h;cbv;iterate 5 try(rw[hb13];cbv)
 obtain⟨x11,hx11,h⟩:=ai h;try dsimp only at h
 refine ACall.mk _ _ rfl (hF _ _ _ (tD hg ht hx11)) (.inl rfl) (nb rfl) ?_;cbv;iterate 2 try(rw[hb13];cbv)
 obtain rfl:=Option.some.inj h;exact ARet.mk trivial hX.symm
end Go.Vs
namespace Go.Vs
open Go.RowKit
theorem nF {P:Program} {f:FuncId} {xs:List Value} {y:Value} (hy:y.oneCell'=true)
 (h:∀w,Laid P w→Calls P f xs.toArray w fun e w'=>e=.returned y∧Below w.heap.size w w'):Fn P f (xs.map fun x=>.c (.v x)) (.c (.r (.v y))):=by
 intro w S0 vs hS ha hL
 have e:=kO _ _ ha
 subst e
 refine(h w hL).mono ?_
 rintro e w' ⟨rfl,hb⟩
 refine⟨y,[],fun _=>False,rfl,?_,⟨hb,List.nodup_nil,by simp,by simp⟩⟩
 simp only[cm,bP,aL,true_and]
 exact hy
theorem rX {P:Program} {w:World} (h:Laid P w) (hg:(P.globalNamed "internal/strconv.uint64pow10").isSome=true):Lib.TabIs P w "internal/strconv.uint64pow10" .u64 Lib.pow10Tab:=
 h.tab ("internal/strconv.uint64pow10",.u64,Lib.pow10Tab) (by simp[tabs]) hg
end Go.Vs
namespace Go.Proofs
open Go.Shelf Go.RowKit Go.Lib Go.Sort
set_option maxHeartbeats 2000000
set_option maxRecDepth 100000
def Tryz.laysM171_ren : Go.Shelf.Ren := ⟨fun | 171 => 63 | 243 => 87 | 246 => 108 | 283 => 128 | 284 => 129 | 285 => 130 | 286 => 131 | 129 => 154 | 317 => 155 | 318 => 156 | 319 => 157 | 320 => 158 | 337 => 172 | 338 => 173 | n => n, fun | 3 => 3 | 9 => 9 | 2 => 2 | 4 => 4 | 171 => 132 | 0 => 0 | 53 => 133 | 37 => 22 | 5 => 5 | 173 => 136 | 212 => 165 | 51 => 153 | 20 => 20 | 213 => 166 | 46 => 125 | 232 => 192 | 233 => 193 | n => n, fun | 17 => 3 | 18 => 6 | 19 => 7 | n => n⟩
theorem Tryz.laysM171 : Go.Proofs.LaysM.n171 Tryz.prog Tryz.laysM171_ren := {
  mixed := by kernel_rfl
  f129 := Tryz.func154.trans (congrArg some (by kernel_rfl))
  f171 := Tryz.func63.trans (congrArg some (by kernel_rfl))
  f243 := Tryz.func87.trans (congrArg some (by kernel_rfl))
  f246 := Tryz.func108.trans (congrArg some (by kernel_rfl))
  f283 := Tryz.func128.trans (congrArg some (by kernel_rfl))
  f284 := Tryz.func129.trans (congrArg some (by kernel_rfl))
  f285 := Tryz.func130.trans (congrArg some (by kernel_rfl))
  f286 := Tryz.func131.trans (congrArg some (by kernel_rfl))
  f317 := Tryz.func155.trans (congrArg some (by kernel_rfl))
  f318 := Tryz.func156.trans (congrArg some (by kernel_rfl))
  f319 := Tryz.func157.trans (congrArg some (by kernel_rfl))
  f320 := Tryz.func158.trans (congrArg some (by kernel_rfl))
  f337 := Tryz.func172.trans (congrArg some (by kernel_rfl))
  f338 := Tryz.func173.trans (congrArg some (by kernel_rfl))
  t0 := Tryz.underlying0
  a0 := Tryz.isAgg0
  z0 := Tryz.sizeOf0
  v0 := Tryz.zeroValue0
  t2 := Tryz.underlying2
  a2 := Tryz.isAgg2
  z2 := Tryz.sizeOf2
  v2 := Tryz.zeroValue2
  t3 := Tryz.underlying3
  a3 := Tryz.isAgg3
  z3 := Tryz.sizeOf3
  v3 := Tryz.zeroValue3
  t4 := Tryz.underlying4
  a4 := Tryz.isAgg4
  z4 := Tryz.sizeOf4
  v4 := Tryz.zeroValue4
  t5 := Tryz.underlying5
  a5 := Tryz.isAgg5
  z5 := Tryz.sizeOf5
  v5 := Tryz.zeroValue5
  t9 := Tryz.underlying9
  a9 := Tryz.isAgg9
  z9 := Tryz.sizeOf9
  v9 := Tryz.zeroValue9
  t20 := Tryz.underlying20
  a20 := Tryz.isAgg20
  z20 := Tryz.sizeOf20
  v20 := Tryz.zeroValue20
  t37 := Tryz.underlying22
  a37 := Tryz.isAgg22
  z37 := Tryz.sizeOf22
  v37 := Tryz.zeroValue22
  t46 := Tryz.underlying125
  a46 := Tryz.isAgg125
  z46 := Tryz.sizeOf125
  v46 := Tryz.zeroValue125
  t51 := Tryz.underlying153
  a51 := Tryz.isAgg153
  z51 := Tryz.sizeOf153
  v51 := Tryz.zeroValue153
  t53 := Tryz.underlying133
  a53 := Tryz.isAgg133
  z53 := Tryz.sizeOf133
  v53 := Tryz.zeroValue133
  t171 := Tryz.underlying132
  a171 := Tryz.isAgg132
  z171 := Tryz.sizeOf132
  v171 := Tryz.zeroValue132
  t173 := Tryz.underlying136
  a173 := Tryz.isAgg136
  z173 := Tryz.sizeOf136
  v173 := Tryz.zeroValue136
  t212 := Tryz.underlying165
  a212 := Tryz.isAgg165
  z212 := Tryz.sizeOf165
  v212 := Tryz.zeroValue165
  t213 := Tryz.underlying166
  a213 := Tryz.isAgg166
  z213 := Tryz.sizeOf166
  t232 := Tryz.underlying192
  a232 := Tryz.isAgg192
  z232 := Tryz.sizeOf192
  v232 := Tryz.zeroValue192
  t233 := Tryz.underlying193
  a233 := Tryz.isAgg193
  z233 := Tryz.sizeOf193
  v233 := Tryz.zeroValue193
  g17 := by kernel_rfl
  g18 := by kernel_rfl
  g19 := by kernel_rfl
  i0 := by kernel_rfl
  i2 := by kernel_rfl
  i3 := by kernel_rfl
  i4 := by kernel_rfl
  i5 := by kernel_rfl
  i9 := by kernel_rfl
  i20 := by kernel_rfl
  i37 := by kernel_rfl
  i46 := by kernel_rfl
  i51 := by kernel_rfl
  i53 := by kernel_rfl
  i171 := by kernel_rfl
  i173 := by kernel_rfl
  i212 := by kernel_rfl
  i232 := by kernel_rfl
  i233 := by kernel_rfl
  m17 := by kernel_rfl
  m18 := by kernel_rfl
  m19 := by kernel_rfl }
theorem Tryz.itoaN:Tryz.laysM171_ren.f 171=63:=by kernel_rfl
theorem Tryz.powG:(Tryz.prog.globalNamed "internal/strconv.uint64pow10").isSome=true:=by kernel_rfl
end Go.Proofs
namespace Go.Vs
open Go Go.Proofs Go.RowKit
def dZ (g:G) (t:TE) (a0:Int):Option ByteArray:=gd (-9223372036854775808≤a0∧a0≤9223372036854775807)<|some ⟨(Lib.itoa a0).toArray⟩
theorem iO {g:G} {t:TE} {a0:Int} {r:ByteArray} (hg:g=G.real) (ht:t=TE.real) (h:dZ g t a0=some r):Fn Tryz.prog 63 [.c (.v (.int .i64 a0))] (.c (.r (.v (.string r)))):=by
 obtain⟨⟨h0,h1⟩,h⟩:=ah h;cases h
 refine nF (xs:=[.int .i64 a0]) rfl (fun w hw=>?_);have k:=Any.strconv_Itoa Tryz.laysM171 a0 h0 h1 w (rX hw Tryz.powG);rw[Tryz.itoaN] at k;refine k.mono ?_;rintro e w' ⟨rfl,k,os,rfl⟩;exact⟨rfl,Go.Lib.below_grow _ _ (Nat.le_refl _) _ _⟩
set_option maxRecDepth 100000
def ir26 (s_k0:ByteArray):J:=js [jq 2 (.mv (.k (.c (.r (.v (.string s_k0))))))] [0] (js [jm 3 0,jc 4 63 [3],jm 2 4] [2] .ret)
def rv26:List RV:=[.t 2]
open Go.Proofs Go.IntWalk
set_option linter.unusedVariables false
set_option maxHeartbeats 4000000
def aQ (g:G) (t:TE) (a0:Int):Option ByteArray:=
 cl (dZ g t a0) fun x1=>
 some x1
theorem bd {g:G} {t:TE} {a0:Int} {r:ByteArray} (hg:g=G.real) (ht:t=TE.real) (h:aQ g t a0=some r):Fn Tryz.prog 26 [.c (.v (.int .i64 a0))] (.c (.r (.v (.string r)))):=by
 obtain⟨X,hX⟩:=bg (.c (.r (.v (.string r))):X);rw[←hX];refine aD (rvs:=rv26) (j:=(ir26 str_k0)) Tryz.func26 rfl (by kernel_rfl) (nb rfl) (by kernel_rfl) ae ?_;intro g2 F hg2 hF;obtain rfl:g2=g:=hg2.unique.trans hg.symm;clear hg2;obtain⟨_⟩:=g2;obtain⟨_⟩:=t;unfold aQ at h
 try dsimp only at h
 obtain⟨s_k0,hs_k0⟩:∃s,str_k0=s:=⟨_,rfl⟩;try rw[hs_k0] at h
 rw[hs_k0];cbv;obtain⟨x1,hx1,h⟩:=ai h;try dsimp only at h
 refine ACall.mk _ _ rfl (hF _ _ _ (iO hg ht hx1)) (.inl rfl) (nb rfl) ?_;cbv;obtain rfl:=Option.some.inj h;exact ARet.mk trivial hX.symm
end Go.Vs
namespace Go.Vs
open Go.RowKit Go.Proofs
end Go.Vs
namespace Go.Proofs
open Go.Shelf Go.RowKit Go.Lib Go.Sort
set_option maxHeartbeats 2000000
set_option maxRecDepth 100000
def Tryz.lays105_ren : Go.Shelf.Ren := ⟨fun | 105 => 109 | 212 => 132 | 99 => 133 | 165 => 134 | 166 => 135 | 170 => 136 | 169 => 137 | 263 => 159 | 264 => 160 | 206 => 161 | 240 => 162 | 241 => 163 | 276 => 174 | 277 => 175 | n => n, fun | 9 => 9 | 3 => 3 | 4 => 4 | 20 => 20 | 0 => 0 | 46 => 125 | 109 => 138 | 5 => 5 | 72 => 143 | 76 => 87 | 51 => 153 | 146 => 154 | 53 => 133 | 148 => 169 | 70 => 141 | 37 => 22 | 75 => 86 | 127 => 171 | 164 => 186 | 80 => 146 | n => n, fun | n => n⟩
theorem Tryz.lays105 : Go.Proofs.Lays.n105 Tryz.prog Tryz.lays105_ren := {
  mixed := by kernel_rfl
  f99 := Tryz.func133.trans (congrArg some (by kernel_rfl))
  f105 := Tryz.func109.trans (congrArg some (by kernel_rfl))
  f165 := Tryz.func134.trans (congrArg some (by kernel_rfl))
  f166 := Tryz.func135.trans (congrArg some (by kernel_rfl))
  f169 := Tryz.func137.trans (congrArg some (by kernel_rfl))
  f170 := Tryz.func136.trans (congrArg some (by kernel_rfl))
  f206 := Tryz.func161.trans (congrArg some (by kernel_rfl))
  f212 := Tryz.func132.trans (congrArg some (by kernel_rfl))
  f240 := Tryz.func162.trans (congrArg some (by kernel_rfl))
  f241 := Tryz.func163.trans (congrArg some (by kernel_rfl))
  f263 := Tryz.func159.trans (congrArg some (by kernel_rfl))
  f264 := Tryz.func160.trans (congrArg some (by kernel_rfl))
  f276 := Tryz.func174.trans (congrArg some (by kernel_rfl))
  f277 := Tryz.func175.trans (congrArg some (by kernel_rfl))
  t0 := Tryz.underlying0
  a0 := Tryz.isAgg0
  z0 := Tryz.sizeOf0
  v0 := Tryz.zeroValue0
  t3 := Tryz.underlying3
  a3 := Tryz.isAgg3
  z3 := Tryz.sizeOf3
  v3 := Tryz.zeroValue3
  t4 := Tryz.underlying4
  a4 := Tryz.isAgg4
  z4 := Tryz.sizeOf4
  v4 := Tryz.zeroValue4
  t5 := Tryz.underlying5
  a5 := Tryz.isAgg5
  z5 := Tryz.sizeOf5
  v5 := Tryz.zeroValue5
  t9 := Tryz.underlying9
  a9 := Tryz.isAgg9
  z9 := Tryz.sizeOf9
  v9 := Tryz.zeroValue9
  t20 := Tryz.underlying20
  a20 := Tryz.isAgg20
  z20 := Tryz.sizeOf20
  v20 := Tryz.zeroValue20
  t37 := Tryz.underlying22
  a37 := Tryz.isAgg22
  z37 := Tryz.sizeOf22
  v37 := Tryz.zeroValue22
  t46 := Tryz.underlying125
  a46 := Tryz.isAgg125
  z46 := Tryz.sizeOf125
  v46 := Tryz.zeroValue125
  t51 := Tryz.underlying153
  a51 := Tryz.isAgg153
  z51 := Tryz.sizeOf153
  v51 := Tryz.zeroValue153
  t53 := Tryz.underlying133
  a53 := Tryz.isAgg133
  z53 := Tryz.sizeOf133
  v53 := Tryz.zeroValue133
  t70 := Tryz.underlying141
  a70 := Tryz.isAgg141
  z70 := Tryz.sizeOf141
  v70 := Tryz.zeroValue141
  t72 := Tryz.underlying143
  a72 := Tryz.isAgg143
  z72 := Tryz.sizeOf143
  v72 := Tryz.zeroValue143
  t75 := Tryz.underlying86
  a75 := Tryz.isAgg86
  z75 := Tryz.sizeOf86
  v75 := Tryz.zeroValue86
  t76 := Tryz.underlying87
  a76 := Tryz.isAgg87
  z76 := Tryz.sizeOf87
  v76 := Tryz.zeroValue87
  t109 := Tryz.underlying138
  a109 := Tryz.isAgg138
  z109 := Tryz.sizeOf138
  v109 := Tryz.zeroValue138
  t127 := Tryz.underlying171
  a127 := Tryz.isAgg171
  z127 := Tryz.sizeOf171
  v127 := Tryz.zeroValue171
  t146 := Tryz.underlying154
  a146 := Tryz.isAgg154
  z146 := Tryz.sizeOf154
  v146 := Tryz.zeroValue154
  t148 := Tryz.underlying169
  a148 := Tryz.isAgg169
  z148 := Tryz.sizeOf169
  v148 := Tryz.zeroValue169
  t164 := Tryz.underlying186
  a164 := Tryz.isAgg186
  z164 := Tryz.sizeOf186
  v164 := Tryz.zeroValue186 }
theorem Tryz.repeatN:Tryz.lays105_ren.f 105=109:=by kernel_rfl
theorem Tryz.Builder_Extra_105:Builder.Extra Tryz.prog Tryz.lays105_ren :={
 sizeBuilder:=by kernel_rfl
 liesBuilder:=by kernel_rfl
 t5:=by kernel_rfl
 a5:=fun _=>by kernel_rfl
 z5:=fun _=>by kernel_rfl
 v5:=fun _=>by kernel_rfl
 infoByte:=by kernel_rfl
 cellsByte:=by kernel_rfl
 sizeByte:=by kernel_rfl
 neB5:=by decide }
end Go.Proofs
namespace Go.Vs
open Go Go.Proofs Go.RowKit
def cA (g:G) (t:TE) (a0:ByteArray) (a1:Int):Option ByteArray:=gd (0≤a1∧a1≤1000000∧a0.size≤1000000)<|some ⟨(Lib.repeatL a0.data.toList a1.toNat).toArray⟩
theorem gI {g:G} {t:TE} {a0:ByteArray} {a1:Int} {r:ByteArray} (hg:g=G.real) (ht:t=TE.real) (h:cA g t a0 a1=some r):Fn Tryz.prog 109 [.c (.v (.string a0)),.c (.v (.int .i64 a1))] (.c (.r (.v (.string r)))):=by
 obtain⟨⟨h0,h1,h2⟩,h⟩:=ah h;cases h
 obtain⟨m,rfl⟩:=Int.eq_ofNat_of_zero_le h0;refine nF (xs:=[.string a0,.int .i64 m]) rfl (fun w hw=>?_);have k:=Any.strings_Repeat Tryz.lays105 Tryz.Builder_Extra_105 a0 m w (by omega) (Nat.le_trans (Nat.mul_le_mul h2 (show m≤1000000 by omega)) (by decide));rw[Tryz.repeatN] at k;refine k.mono ?_;rintro e w' ⟨rfl,hb⟩;exact⟨rfl,hb⟩
set_option maxRecDepth 100000
def ir88 (s_k0 s_k9:ByteArray):J:=js [jq 4 (.mv (.k (.c (.r (.v (.string s_k0))))))] [0,1] (js [jm 6 0,jc 7 26 [6],jm 5 7] [1,5] (js [jm 8 1,jm 9 5,jq 10 (.len true 9),jb 11 .sub .i 8 10,jq 12 (.mnx true (ki 0) 11),jc 13 109 [(.k (.c (.r (.v (.string s_k9))))),12],jm 14 5,jb 15 .add .s 13 14,jm 4 15] [4] .ret))
def rv88:List RV:=[.t 4]
open Go.Proofs Go.IntWalk
set_option linter.unusedVariables false
set_option maxHeartbeats 4000000
def eO (g:G) (t:TE) (a0:Int) (a1:Int):Option ByteArray:=
 cl (aQ g t a0) fun x1=>
 cl (cA g t dv (g.imax 0 (g.wrap .i64 (g.sub a1 (g.int (g.slen x1)))))) fun x2=>
 gd ((x2.size+x1.size≤70368744177664))<|
 some (g.cat x2 x1)
theorem kB {g:G} {t:TE} {a0:Int} {a1:Int} {r:ByteArray} (hg:g=G.real) (ht:t=TE.real) (h:eO g t a0 a1=some r):Fn Tryz.prog 88 [.c (.v (.int .i64 a0)),.c (.v (.int .i64 a1))] (.c (.r (.v (.string r)))):=by
 obtain⟨X,hX⟩:=bg (.c (.r (.v (.string r))):X);rw[←hX];refine aD (rvs:=rv88) (j:=(ir88 str_k0 dv)) Tryz.func88 rfl (by kernel_rfl) (nb rfl) (by kernel_rfl) ae ?_;intro g2 F hg2 hF;obtain rfl:g2=g:=hg2.unique.trans hg.symm;clear hg2;obtain⟨_⟩:=g2;obtain⟨_⟩:=t;unfold eO at h
 try dsimp only at h
 obtain⟨s_k0,hs_k0⟩:∃s,str_k0=s:=⟨_,rfl⟩;try rw[hs_k0] at h
 rw[hs_k0];obtain⟨s_k9,hs_k9⟩:∃s,dv=s:=⟨_,rfl⟩;try rw[hs_k9] at h
 rw[hs_k9];cbv;obtain⟨x1,hx1,h⟩:=ai h;try dsimp only at h
 refine ACall.mk _ _ rfl (hF _ _ _ (bd hg ht hx1)) (.inl rfl) (nb rfl) ?_;cbv;obtain⟨x2,hx2,h⟩:=ai h;try dsimp only at h
 refine ACall.mk _ _ rfl (hF _ _ _ (gI hg ht hx2)) (.inl rfl) (nb rfl) ?_;cbv;obtain⟨hc1,h⟩:=ah h;refine AStep.mk (ax hc1) ?_;cbv;obtain rfl:=Option.some.inj h;exact ARet.mk trivial hX.symm
def ir64 (s_k0 s_k10:ByteArray):J:=js [jq 2 (.mv (.k (.c (.r (.v (.string s_k0))))))] [0] (js [jm 3 0,jb 4 .quo .i 3 (ki 60),jc 5 88 [4,(ki 2)],jq 6 (.bin .add .s 5 (.k (.c (.r (.v (.string s_k10)))))),jm 7 0,jb 8 .rem .i 7 (ki 60),jc 9 88 [8,(ki 2)],jb 10 .add .s 6 9,jm 2 10] [2] .ret)
def rv64:List RV:=[.t 2]
def hC (g:G) (t:TE) (a0:Int):Option ByteArray:=
 cl (eO g t (g.wrap .i64 (g.quo a0 60)) 2) fun x1=>
 gd ((x1.size+cI.size≤70368744177664))<|
 cl (eO g t (g.rem a0 60) 2) fun x2=>
 gd (((g.cat x1 cI).size+x2.size≤70368744177664))<|
 some (g.cat (g.cat x1 cI) x2)
theorem rt {g:G} {t:TE} {a0:Int} {r:ByteArray} (hg:g=G.real) (ht:t=TE.real) (h:hC g t a0=some r):Fn Tryz.prog 64 [.c (.v (.int .i64 a0))] (.c (.r (.v (.string r)))):=by
 obtain⟨X,hX⟩:=bg (.c (.r (.v (.string r))):X);rw[←hX];refine aD (rvs:=rv64) (j:=(ir64 str_k0 cI)) Tryz.func64 rfl (by kernel_rfl) (nb rfl) (by kernel_rfl) ae ?_;intro g2 F hg2 hF;obtain rfl:g2=g:=hg2.unique.trans hg.symm;clear hg2;obtain⟨_⟩:=g2;obtain⟨_⟩:=t;unfold hC at h
 try dsimp only at h
 obtain⟨s_k0,hs_k0⟩:∃s,str_k0=s:=⟨_,rfl⟩;try rw[hs_k0] at h
 rw[hs_k0];obtain⟨s_k10,hs_k10⟩:∃s,cI=s:=⟨_,rfl⟩;try rw[hs_k10] at h
 rw[hs_k10];cbv;refine AStep.mk (by decide) ?_;cbv;obtain⟨x1,hx1,h⟩:=ai h;try dsimp only at h
 refine ACall.mk _ _ rfl (hF _ _ _ (kB hg ht hx1)) (.inl rfl) (nb rfl) ?_;cbv;obtain⟨hc1,h⟩:=ah h;refine AStep.mk (ax hc1) ?_;cbv;refine AStep.mk (by decide) ?_;cbv;obtain⟨x2,hx2,h⟩:=ai h;try dsimp only at h
 refine ACall.mk _ _ rfl (hF _ _ _ (kB hg ht hx2)) (.inl rfl) (nb rfl) ?_;cbv;obtain⟨hc2,h⟩:=ah h;refine AStep.mk (ax hc2) ?_;cbv;obtain rfl:=Option.some.inj h;exact ARet.mk trivial hX.symm
def ir27 (s_k0 s_k11:ByteArray):J:=js [jq 2 (.mv (.k (.c (.r (.v (.string s_k0))))))] [0] (.seq (js [jm 3 0,jc 4 34 [3,(ki 0),(ki 100000)],jq 5 (.not 4)] [0,5] (.cond 5 (js [jq 2 (.mv (.k (.c (.r (.v (.string s_k0))))))] [2] .ret) .skip)) (js [jm 6 0,jb 7 .quo .i 6 (ki 1440),jc 8 26 [7],jq 9 (.bin .add .s 8 (.k (.c (.r (.v (.string s_k11)))))),jm 10 0,jb 11 .rem .i 10 (ki 1440),jc 12 64 [11],jb 13 .add .s 9 12,jm 2 13] [2] .ret))
def rv27:List RV:=[.t 2]
def cd (g:G) (t:TE) (a0:Int):Option ByteArray:=
 lP (bw g t a0 0 100000) fun x1=>
 br x1
 (
  cl (aQ g t (g.wrap .i64 (g.quo a0 1440))) fun x2=>
  gd ((x2.size+ac.size≤70368744177664))<|
  cl (hC g t (g.rem a0 1440)) fun x3=>
  gd (((g.cat x2 ac).size+x3.size≤70368744177664))<|
  some (g.cat (g.cat x2 ac) x3))
 (
  some str_k0)
theorem ef {g:G} {t:TE} {a0:Int} {r:ByteArray} (hg:g=G.real) (ht:t=TE.real) (h:cd g t a0=some r):Fn Tryz.prog 27 [.c (.v (.int .i64 a0))] (.c (.r (.v (.string r)))):=by
 obtain⟨X,hX⟩:=bg (.c (.r (.v (.string r))):X);rw[←hX];refine aD (rvs:=rv27) (j:=(ir27 str_k0 ac)) Tryz.func27 rfl (by kernel_rfl) (nb rfl) (by kernel_rfl) ae ?_;intro g2 F hg2 hF;obtain rfl:g2=g:=hg2.unique.trans hg.symm;clear hg2;obtain⟨_⟩:=g2;obtain⟨_⟩:=t;unfold cd at h
 try dsimp only at h
 obtain⟨s_k0,hs_k0⟩:∃s,str_k0=s:=⟨_,rfl⟩;try rw[hs_k0] at h
 rw[hs_k0];obtain⟨s_k11,hs_k11⟩:∃s,ac=s:=⟨_,rfl⟩;try rw[hs_k11] at h
 rw[hs_k11];cbv;obtain⟨x1,hx1,h⟩:=am h;try dsimp only at h
 refine ACall.mk _ _ rfl (hF _ _ _ (bE hg ht hx1)) (.inl rfl) (nb rfl) ?_;cbv
 cases hb1:x1
 ·rw[aa hb1] at h;cbv;obtain rfl:=Option.some.inj h;exact ARet.mk trivial hX.symm
 rw[ab hb1] at h;cbv;refine AStep.mk (by decide) ?_;cbv;obtain⟨x2,hx2,h⟩:=ai h;try dsimp only at h
 refine ACall.mk _ _ rfl (hF _ _ _ (bd hg ht hx2)) (.inl rfl) (nb rfl) ?_;cbv;obtain⟨hc1,h⟩:=ah h;refine AStep.mk (ax hc1) ?_;cbv;refine AStep.mk (by decide) ?_;cbv;obtain⟨x3,hx3,h⟩:=ai h;try dsimp only at h
 refine ACall.mk _ _ rfl (hF _ _ _ (rt hg ht hx3)) (.inl rfl) (nb rfl) ?_;cbv;obtain⟨hc2,h⟩:=ah h;refine AStep.mk (ax hc2) ?_;cbv;obtain rfl:=Option.some.inj h;exact ARet.mk trivial hX.symm
def ir28 (s_k0 s_k12 s_k13 s_k14 s_k15:ByteArray):J:=js [jq 2 (.mv (.k (.c (.r (.v (.string s_k0))))))] [0] (js [jq 3 (.bsl 1 [(.k (.c (.r (.v (.string s_k12))))),(.k (.c (.r (.v (.string s_k13))))),(.k (.c (.r (.v (.string s_k14))))),(.k (.c (.r (.v (.string s_k15)))))]),jm 4 0,jb 5 .sub .i 4 (ki 1),ja 6 1 3 5,jk 7 6,jm 2 7] [2] .ret)
def rv28:List RV:=[.t 2]
def di (g:G) (t:TE) (a0:Int):Option ByteArray:=
 lP ([gc,ge,gl,gi]) fun(l1:List ByteArray)=>
 gd (((0:Int)≤(g.wrap .i64 (g.sub a0 1))∧(g.wrap .i64 (g.sub a0 1))<(((g.dlen (t.d_S l1)):Nat):Int)))<|
 gt l1 (g.nat (g.wrap .i64 (g.sub a0 1))) fun x1=>
 some x1
theorem eY {g:G} {t:TE} {a0:Int} {r:ByteArray} (hg:g=G.real) (ht:t=TE.real) (h:di g t a0=some r):Fn Tryz.prog 28 [.c (.v (.int .i64 a0))] (.c (.r (.v (.string r)))):=by
 obtain⟨X,hX⟩:=bg (.c (.r (.v (.string r))):X);rw[←hX];refine aD (rvs:=rv28) (j:=(ir28 str_k0 gc ge gl gi)) Tryz.func28 rfl (by kernel_rfl) (nb rfl) (by kernel_rfl) ae ?_;intro g2 F hg2 hF;obtain rfl:g2=g:=hg2.unique.trans hg.symm;clear hg2;obtain⟨_,_,_,_,_,_,_,_,_,_,_,_,_,_,_,_,_,_,_,_,_,_,_,_,dlen⟩:=g2;obtain⟨_,_,_,_,_,_,_,d_S⟩:=t
 unfold di at h;try dsimp only at h
 obtain⟨s_k0,hs_k0⟩:∃s,str_k0=s:=⟨_,rfl⟩;try rw[hs_k0] at h
 rw[hs_k0];obtain⟨s_k12,hs_k12⟩:∃s,gc=s:=⟨_,rfl⟩;try rw[hs_k12] at h
 rw[hs_k12];obtain⟨s_k13,hs_k13⟩:∃s,ge=s:=⟨_,rfl⟩;try rw[hs_k13] at h
 rw[hs_k13];obtain⟨s_k14,hs_k14⟩:∃s,gl=s:=⟨_,rfl⟩;try rw[hs_k14] at h
 rw[hs_k14];obtain⟨s_k15,hs_k15⟩:∃s,gi=s:=⟨_,rfl⟩;try rw[hs_k15] at h
 rw[hs_k15];cbv;obtain⟨l1,hl1,h⟩:=am h;try dsimp only at h
 refine ANew.mk (d_S l1) (dlen (d_S l1)) (by rw[←hl1];exact eF hg ht [s_k12,s_k13,s_k14,s_k15]) (by rw[←hl1];exact dk hg ht [s_k12,s_k13,s_k14,s_k15]) ?_;cbv;obtain⟨hc1,h⟩:=ah h;refine AStep.mk hc1 ?_;cbv;obtain⟨x1,hx1,h⟩:=dc h;try dsimp only at h
 refine AGet.mk _ (f8 hg ht hx1) ?_;cbv;obtain rfl:=Option.some.inj h;exact ARet.mk trivial hX.symm
def ir8 (s_k0 s_k11 s_k16:ByteArray):J:=js [jq 2 (.box 0),jq 3 (.box 1),jq 4 (.mv (.k (.c (.r (.v (.string s_k0))))))] [2,3] (.seq (js [jl 6 3 2,jl 7 6 3,jc 8 10 [6,7],jq 9 (.not 8)] [3,9] (.cond 9 (js [jq 4 (.mv (.k (.c (.r (.v (.string s_k0))))))] [4] .ret) .skip)) (js [jf 10 3 3,jk 11 10,jm 5 11] [3,5] (.seq (js [jf 12 2 3,jk 13 12,jb 14 .eql .i 13 (ki 3),jm 15 14,jv 16 15 (.fa 2 3),jv 17 15 (.ld false 1 16),jv 18 15 (.bin .eql .i 17 (ki 2)),jq 19 (.pick 15 kt 18)] [3,5,19] (.cond 19 (.reg (some [[],[0],[0,1],[0,1,2],[0,1,2,3],[],[5],[5,6],[0,1,2,3,5,6,7],[0,1,2,3,4,5,6,7,8],[0,1,2,3,4,5,6,7,8,9]]) [jf 20 4 3,jf 21 0 20,jk 22 21,jc 23 26 [22],jq 24 (.bin .add .s 23 (.k (.c (.r (.v (.string s_k16)))))),jf 25 4 3,jf 26 1 25,jk 27 26,jc 28 26 [27],jb 29 .add .s 24 28,jm 5 29] [3,5]) .skip)) (.seq (.reg (some [[],[0],[0,1],[0,1,2],[],[4],[0,1,2,4,5],[0,1,2,3,4,5,6],[0,1,2,3,4,5,6,7],[],[9],[0,1,2,4,5,6,9,10],[0,1,2,3,4,5,6,7,8,9,10,11],[0,1,2,3,4,5,6,7,8,9,10,11,12],[],[0,1,2,3,4,5,6,7,8,9,10,11,12,13,14],[0,1,2,3,4,5,6,7,8,9,10,11,12,13,14,15]]) [jf 30 1 3,jk 31 30,jc 32 27 [31],jq 33 (.bin .add .s 32 (.k (.c (.r (.v (.string s_k11)))))),jf 34 0 3,jk 35 34,jc 36 26 [35],jb 37 .add .s 33 36,jq 38 (.bin .add .s 37 (.k (.c (.r (.v (.string s_k11)))))),jf 39 2 3,jk 40 39,jc 41 28 [40],jb 42 .add .s 38 41,jq 43 (.bin .add .s 42 (.k (.c (.r (.v (.string s_k11)))))),jm 44 5,jb 45 .add .s 43 44,jm 4 45] [4]) .ret))))
def rv8:List RV:=[.t 4]
def cW (g:G) (t:TE) (a0:Network) (a1:Scan):Option ByteArray:=
 cl (fz g t a0 (Scan.mk a1.Thing a1.At a1.Kind a1.Place (Trip.mk a1.Trip.Leg a1.Trip.Day))) fun x1=>
 br x1
 (
  br (g.eq a1.Kind 3)
  (
   cl (aQ g t a1.Trip.Leg) fun x2=>
   gd ((x2.size+bv.size≤70368744177664))<|
   cl (aQ g t a1.Trip.Day) fun x3=>
   gd (((g.cat x2 bv).size+x3.size≤70368744177664))<|
   cl (cd g t a1.At) fun x4=>
   gd ((x4.size+ac.size≤70368744177664))<|
   cl (aQ g t a1.Thing) fun x5=>
   gd (((g.cat x4 ac).size+x5.size≤70368744177664))<|
   gd (((g.cat (g.cat x4 ac) x5).size+ac.size≤70368744177664))<|
   cl (di g t a1.Kind) fun x6=>
   gd (((g.cat (g.cat (g.cat x4 ac) x5) ac).size+x6.size≤70368744177664))<|
   gd (((g.cat (g.cat (g.cat (g.cat x4 ac) x5) ac) x6).size+ac.size≤70368744177664))<|
   gd (((g.cat (g.cat (g.cat (g.cat (g.cat x4 ac) x5) ac) x6) ac).size+(g.cat (g.cat x2 bv) x3).size≤70368744177664))<|
   some (g.cat (g.cat (g.cat (g.cat (g.cat (g.cat x4 ac) x5) ac) x6) ac) (g.cat (g.cat x2 bv) x3)))
  (
   br (g.eq a1.Kind 2)
   (
    cl (aQ g t a1.Trip.Leg) fun x7=>
    gd ((x7.size+bv.size≤70368744177664))<|
    cl (aQ g t a1.Trip.Day) fun x8=>
    gd (((g.cat x7 bv).size+x8.size≤70368744177664))<|
    cl (cd g t a1.At) fun x9=>
    gd ((x9.size+ac.size≤70368744177664))<|
    cl (aQ g t a1.Thing) fun x10=>
    gd (((g.cat x9 ac).size+x10.size≤70368744177664))<|
    gd (((g.cat (g.cat x9 ac) x10).size+ac.size≤70368744177664))<|
    cl (di g t a1.Kind) fun x11=>
    gd (((g.cat (g.cat (g.cat x9 ac) x10) ac).size+x11.size≤70368744177664))<|
    gd (((g.cat (g.cat (g.cat (g.cat x9 ac) x10) ac) x11).size+ac.size≤70368744177664))<|
    gd (((g.cat (g.cat (g.cat (g.cat (g.cat x9 ac) x10) ac) x11) ac).size+(g.cat (g.cat x7 bv) x8).size≤70368744177664))<|
    some (g.cat (g.cat (g.cat (g.cat (g.cat (g.cat x9 ac) x10) ac) x11) ac) (g.cat (g.cat x7 bv) x8)))
   (
    cl (cd g t a1.At) fun x12=>
    gd ((x12.size+ac.size≤70368744177664))<|
    cl (aQ g t a1.Thing) fun x13=>
    gd (((g.cat x12 ac).size+x13.size≤70368744177664))<|
    gd (((g.cat (g.cat x12 ac) x13).size+ac.size≤70368744177664))<|
    cl (di g t a1.Kind) fun x14=>
    gd (((g.cat (g.cat (g.cat x12 ac) x13) ac).size+x14.size≤70368744177664))<|
    gd (((g.cat (g.cat (g.cat (g.cat x12 ac) x13) ac) x14).size+ac.size≤70368744177664))<|
    gd (((g.cat (g.cat (g.cat (g.cat (g.cat x12 ac) x13) ac) x14) ac).size+a1.Place.size≤70368744177664))<|
    some (g.cat (g.cat (g.cat (g.cat (g.cat (g.cat x12 ac) x13) ac) x14) ac) a1.Place))))
 (
  some str_k0)
theorem kc {g:G} {t:TE} {a0:Network} {a1:Scan} {r:ByteArray} (hg:g=G.real) (ht:t=TE.real) (h:cW g t a0 a1=some r):Fn Tryz.prog 8 [.g (Network.rs t a0),.g (Scan.rs t a1)] (.c (.r (.v (.string r)))):=by
 obtain⟨X,hX⟩:=bg (.c (.r (.v (.string r))):X);rw[←hX];refine aD (rvs:=rv8) (j:=(ir8 str_k0 ac bv)) Tryz.func8 rfl (by kernel_rfl) (nb rfl) (by kernel_rfl) ae ?_;intro g2 F hg2 hF;obtain rfl:g2=g:=hg2.unique.trans hg.symm;clear hg2;obtain⟨_,_,_,eq⟩:=g2;obtain⟨_⟩:=t;obtain⟨a0_Legs,a0_Off,a0_Change⟩:=a0
 obtain⟨a1_Thing,a1_At,a1_Kind,a1_Place,⟨a1_Trip_Leg,a1_Trip_Day⟩⟩:=a1;unfold cW at h;try dsimp only at h
 obtain⟨s_k0,hs_k0⟩:∃s,str_k0=s:=⟨_,rfl⟩;try rw[hs_k0] at h
 rw[hs_k0];obtain⟨s_k11,hs_k11⟩:∃s,ac=s:=⟨_,rfl⟩;try rw[hs_k11] at h
 rw[hs_k11];obtain⟨s_k16,hs_k16⟩:∃s,bv=s:=⟨_,rfl⟩;try rw[hs_k16] at h
 rw[hs_k16];cbv;obtain⟨x1,hx1,h⟩:=ai h;try dsimp only at h
 refine ACall.mk _ _ rfl (hF _ _ _ (pt hg ht hx1)) (.inl rfl) (nb rfl) ?_;cbv
 cases hb1:x1
 ·rw[aa hb1] at h;cbv;obtain rfl:=Option.some.inj h;exact ARet.mk trivial hX.symm
 rw[ab hb1] at h;cbv
 cases hb2:(eq a1_Kind 3)
 rotate_left
 ·rw[ab hb2] at h;cbv;iterate 3 try(rw[hb2];cbv)
  obtain⟨x2,hx2,h⟩:=ai h;try dsimp only at h
  refine ACall.mk _ _ rfl (hF _ _ _ (bd hg ht hx2)) (.inl rfl) (nb rfl) ?_;cbv;obtain⟨hc1,h⟩:=ah h;refine AStep.mk (ax hc1) ?_;cbv;obtain⟨x3,hx3,h⟩:=ai h;try dsimp only at h
  refine ACall.mk _ _ rfl (hF _ _ _ (bd hg ht hx3)) (.inl rfl) (nb rfl) ?_;cbv;obtain⟨hc2,h⟩:=ah h;refine AStep.mk (ax hc2) ?_;cbv;obtain⟨x4,hx4,h⟩:=ai h;try dsimp only at h
  refine ACall.mk _ _ rfl (hF _ _ _ (ef hg ht hx4)) (.inl rfl) (nb rfl) ?_;cbv;obtain⟨hc3,h⟩:=ah h;refine AStep.mk (ax hc3) ?_;cbv;obtain⟨x5,hx5,h⟩:=ai h;try dsimp only at h
  refine ACall.mk _ _ rfl (hF _ _ _ (bd hg ht hx5)) (.inl rfl) (nb rfl) ?_;cbv;obtain⟨hc4,h⟩:=ah h;refine AStep.mk (ax hc4) ?_;cbv;obtain⟨hc5,h⟩:=ah h;refine AStep.mk (ax hc5) ?_;cbv;obtain⟨x6,hx6,h⟩:=ai h;try dsimp only at h
  refine ACall.mk _ _ rfl (hF _ _ _ (eY hg ht hx6)) (.inl rfl) (nb rfl) ?_;cbv;obtain⟨hc6,h⟩:=ah h;refine AStep.mk (ax hc6) ?_;cbv;obtain⟨hc7,h⟩:=ah h;refine AStep.mk (ax hc7) ?_;cbv;obtain⟨hc8,h⟩:=ah h;refine AStep.mk (ax hc8) ?_;cbv;obtain rfl:=Option.some.inj h;exact ARet.mk trivial hX.symm
 rw[aa hb2] at h;cbv;iterate 3 try(rw[hb2];cbv)
 cases hb3:(eq a1_Kind 2)
 ·rw[aa hb3] at h;cbv;obtain⟨x12,hx12,h⟩:=ai h;try dsimp only at h
  refine ACall.mk _ _ rfl (hF _ _ _ (ef hg ht hx12)) (.inl rfl) (nb rfl) ?_;cbv;obtain⟨hc17,h⟩:=ah h;refine AStep.mk (ax hc17) ?_;cbv;obtain⟨x13,hx13,h⟩:=ai h;try dsimp only at h
  refine ACall.mk _ _ rfl (hF _ _ _ (bd hg ht hx13)) (.inl rfl) (nb rfl) ?_;cbv;obtain⟨hc18,h⟩:=ah h;refine AStep.mk (ax hc18) ?_;cbv;obtain⟨hc19,h⟩:=ah h;refine AStep.mk (ax hc19) ?_;cbv;obtain⟨x14,hx14,h⟩:=ai h;try dsimp only at h
  refine ACall.mk _ _ rfl (hF _ _ _ (eY hg ht hx14)) (.inl rfl) (nb rfl) ?_;cbv;obtain⟨hc20,h⟩:=ah h;refine AStep.mk (ax hc20) ?_;cbv;obtain⟨hc21,h⟩:=ah h;refine AStep.mk (ax hc21) ?_;cbv;obtain⟨hc22,h⟩:=ah h;refine AStep.mk (ax hc22) ?_;cbv;obtain rfl:=Option.some.inj h;exact ARet.mk trivial hX.symm
 rw[ab hb3] at h;cbv;obtain⟨x7,hx7,h⟩:=ai h;try dsimp only at h
 refine ACall.mk _ _ rfl (hF _ _ _ (bd hg ht hx7)) (.inl rfl) (nb rfl) ?_;cbv;obtain⟨hc9,h⟩:=ah h;refine AStep.mk (ax hc9) ?_;cbv;obtain⟨x8,hx8,h⟩:=ai h;try dsimp only at h
 refine ACall.mk _ _ rfl (hF _ _ _ (bd hg ht hx8)) (.inl rfl) (nb rfl) ?_;cbv;obtain⟨hc10,h⟩:=ah h;refine AStep.mk (ax hc10) ?_;cbv;obtain⟨x9,hx9,h⟩:=ai h;try dsimp only at h
 refine ACall.mk _ _ rfl (hF _ _ _ (ef hg ht hx9)) (.inl rfl) (nb rfl) ?_;cbv;obtain⟨hc11,h⟩:=ah h;refine AStep.mk (ax hc11) ?_;cbv;obtain⟨x10,hx10,h⟩:=ai h;try dsimp only at h
 refine ACall.mk _ _ rfl (hF _ _ _ (bd hg ht hx10)) (.inl rfl) (nb rfl) ?_;cbv;obtain⟨hc12,h⟩:=ah h;refine AStep.mk (ax hc12) ?_;cbv;obtain⟨hc13,h⟩:=ah h;refine AStep.mk (ax hc13) ?_;cbv;obtain⟨x11,hx11,h⟩:=ai h;try dsimp only at h
 refine ACall.mk _ _ rfl (hF _ _ _ (eY hg ht hx11)) (.inl rfl) (nb rfl) ?_;cbv;obtain⟨hc14,h⟩:=ah h;refine AStep.mk (ax hc14) ?_;cbv;obtain⟨hc15,h⟩:=ah h;refine AStep.mk (ax hc15) ?_;cbv;obtain⟨hc16,h⟩:=ah h;refine AStep.mk (ax hc16) ?_;cbv;obtain rfl:=Option.some.inj h;exact ARet.mk trivial hX.symm
def ir74:J:=js [jq 2 (.box 0),jm 4 (ki 0)] [1,2] (js [jm 5 1,jf 6 0 2,jk 7 6,jq 8 (.len true 7),jb 9 .sub .i 5 8,jm 1 9] [1,2] (.seq (js [jm 10 1,jb 11 .lss .i 10 (ki 0)] [1,2,11] (.cond 11 (js [jq 4 (.mv (.k (V.i (-1))))] [4] .ret) .skip)) (js [jm 12 1,jf 13 1 2,jk 14 13,jq 15 (.len true 14),jb 16 .sub .i 12 15,jm 1 16] [1] (.seq (js [jm 17 1,jb 18 .lss .i 17 (ki 0)] [1,18] (.cond 18 (js [jq 4 (.mv (.k (V.i (-1))))] [4] .ret) .skip)) (js [jm 19 1,jm 4 19] [4] .ret)))))
def rv74:List RV:=[.t 4]
def ib (g:G) (t:TE) (a0:Leg) (a1:Int):Int:=
 br (g.lt (g.wrap .i64 (g.sub a1 (g.int (g.slen a0.From)))) 0)
 (
  (-1))
 (
  br (g.lt (g.wrap .i64 (g.sub (g.wrap .i64 (g.sub a1 (g.int (g.slen a0.From)))) (g.int (g.slen a0.To)))) 0)
  (
   (-1))
  (
   (g.wrap .i64 (g.sub (g.wrap .i64 (g.sub a1 (g.int (g.slen a0.From)))) (g.int (g.slen a0.To))))))
theorem qE {g:G} {t:TE} {a0:Leg} {a1:Int} {r:Int} (hg:g=G.real) (ht:t=TE.real) (h:ib g t a0 a1=r):Fn Tryz.prog 74 [.g (Leg.rs t a0),.c (.v (.int .i64 a1))] (.c (.r (.v (.int .i64 r)))):=by
 obtain⟨X,hX⟩:=bg (.c (.r (.v (.int .i64 r))):X);rw[←hX];refine aD (rvs:=rv74) (j:=ir74) Tryz.func74 rfl (by kernel_rfl) (nb rfl) (by kernel_rfl) ae ?_;intro g2 F hg2 hF;obtain rfl:g2=g:=hg2.unique.trans hg.symm;clear hg2;obtain⟨wrap,lt,_,_,_,_,_,_,_,_,_,_,int,_,sub,_,_,_,_,_,_,_,_,_,_,_,_,_,_,_,_,_,_,_,_,slen⟩:=g2;obtain⟨_⟩:=t;obtain⟨a0_From,a0_To,a0_Start,a0_Takes,a0_Days,a0_Room⟩:=a0
 unfold ib at h;try dsimp only at h
 cbv
 cases hb1:(lt (wrap .i64 (sub a1 (int (slen a0_From)))) 0)
 rotate_left
 ·rw[ab hb1] at h;cbv;subst h;exact ARet.mk trivial hX.symm
 rw[aa hb1] at h;cbv
 cases hb2:(lt (wrap .i64 (sub (wrap .i64 (sub a1 (int (slen a0_From)))) (int (slen a0_To)))) 0)
 rotate_left
 ·rw[ab hb2] at h;cbv;subst h;exact ARet.mk trivial hX.symm
 rw[aa hb2] at h;cbv;subst h;exact ARet.mk trivial hX.symm
def ir46:J:=js [jm 4 (ki 0)] [0,1] (js [jm 6 1,jm 7 0,jq 8 (.len false 7),jb 9 .sub .i 6 8,jm 1 9] [0,1] (.seq (js [jm 10 1,jb 11 .lss .i 10 (ki 0)] [0,1,11] (.cond 11 (js [jq 4 (.mv (.k (V.i (-1))))] [4] .ret) .skip)) (.seq (js [jm 5 (ki 0)] [0,1,5] (.bl 0 (.seq (js [jm 12 5,jm 13 0,jq 14 (.len false 13),jb 15 .lss .i 12 14] [0,1,5,15] (.cond 15 .skip (.exit 0))) (.seq (.block 1 (js [jm 18 0,jm 19 5,ja 20 6 18 19,jl 21 6 20,jm 22 1,jc 23 74 [21,22],jm 1 23] [0,1,5] (js [jm 24 1,jb 25 .lss .i 24 (ki 0)] [0,1,5,25] (.cond 25 (js [jq 4 (.mv (.k (V.i (-1))))] [4] .ret) .skip)))) (.reg none [jm 16 5,jb 17 .add .i 16 (ki 1),jm 5 17] [0,1,5]))))) (js [jm 26 1,jm 4 26] [4] .ret))))
def rv46:List RV:=[.t 4]
def bT (g:G) (t:TE):List Leg→Int→LR Int Int
 |[],v1=>
  (LR.out v1)
 |z1::ls1,v1=>
  lP (ib g t z1 v1) fun x1=>
  br (g.lt x1 0)
  (
   (LR.ret (-1)))
  (
   bT g t ls1 x1)
def fP (g:G) (t:TE) (a0:List Leg) (a1:Int):Int:=
 br (g.lt (g.wrap .i64 (g.sub a1 (g.llen (t.r_Leg a0)))) 0)
 (
  (-1))
 (
  lP (bT g t a0 (g.wrap .i64 (g.sub a1 (g.llen (t.r_Leg a0))))) fun o1=>lrp o1 fun y1=>
  y1)
theorem pq {g:G} {t:TE} {a0:List Leg} {a1:Int} {r:Int} (hg:g=G.real) (ht:t=TE.real) (h:fP g t a0 a1=r):Fn Tryz.prog 46 [.c (.s 6 (t.r_Leg a0)),.c (.v (.int .i64 a1))] (.c (.r (.v (.int .i64 r)))):=by
 obtain⟨X,hX⟩:=bg (.c (.r (.v (.int .i64 r))):X);rw[←hX];refine aD (rvs:=rv46) (j:=ir46) Tryz.func46 rfl (by kernel_rfl) (nb rfl) (by kernel_rfl) ae ?_;intro g2 F hg2 hF;obtain rfl:g2=g:=hg2.unique.trans hg.symm;clear hg2;obtain⟨wrap,lt,_,_,_,_,_,_,_,_,_,_,_,add,sub,_,_,_,_,_,_,llen⟩:=g2;obtain⟨_,_,r_Leg⟩:=t;unfold fP at h;try dsimp only at h
 cbv
 cases hb1:(lt (wrap .i64 (sub a1 (llen (r_Leg a0)))) 0)
 rotate_left
 ·rw[ab hb1] at h;cbv;subst h;exact ARet.mk trivial hX.symm
 rw[aa hb1] at h;cbv;obtain⟨o1,ho1,h⟩:=am h;try dsimp only at h
 try rw[hg] at ho1
 try rw[ht] at ho1
 refine ABL.mk {p:Nat×Int×Int//p.1≤a0.length∧p.2.1=((p.1:Nat):Int)∧bT G.real TE.real (List.drop p.1 a0) p.2.2=o1} (fun⟨⟨k1,v2,v1⟩,_⟩=>({sl:=[(0,.c (.r (.s 6 (r_Leg a0)))),(1,.c (.r (.v (.int .i64 v1)))),(5,.c (.r (.v (.int .i64 v2))))],tab:=[]}:St)) 0 (fun p=>a0.length-p.1.1) ⟨(0,0,(wrap .i64 (sub a1 (llen (r_Leg a0))))),Nat.zero_le _,rfl,ho1⟩ (Int) (fun y1=>({sl:=[(1,.c (.r (.v (.int .i64 y1))))],tab:=[]}:St)) 0 (fun y=>o1=LR.out y) ?_ ?_ ?_
 ·refine Wk.of [] rfl rfl ?_ ?_
  ·cbv;all_goals exact⟨⟨_,rfl,rfl⟩,⟨_,rfl,rfl⟩,⟨_,rfl,rfl⟩,trivial⟩
  cbv;all_goals exact trivial
 ·rintro⟨⟨k1,v2,v1⟩,hk1,hi1,h_1⟩ hq1;have hm1:=(hq1.1 0 _ _ rfl);try dsimp only at hk1 hi1 h_1
  clear hq1;cbv
  by_cases hc1_:k1<a0.length
  ·have hb2:lt v2 (llen (r_Leg a0))=true:=cv hg ht hi1 hc1_;have hs1:=dY hg ht hi1 hc1_ hm1;obtain⟨z1,hz1⟩:=aV hc1_;rw[aF hz1] at h_1;rw[bT] at h_1;obtain⟨z1_From,z1_To,z1_Start,z1_Takes,z1_Days,z1_Room⟩:=z1;try rw[←hg] at h_1
   try rw[←ht] at h_1
   try dsimp only at h_1
   rw[hb2];cbv;refine AStep.mk (fR hi1) ?_;cbv;refine AGet.mk _ (dw hg ht hi1 hz1) ?_;cbv;obtain⟨x1,hx1,h_1⟩:=am h_1;try dsimp only at h_1
   refine ACall.mk _ _ rfl (hF _ _ _ (qE hg ht hx1)) (.inl rfl) (nb rfl) ?_;cbv
   cases hb3:(lt x1 0)
   rotate_left
   ·rw[ab hb3] at h_1;cbv;subst h_1;try dsimp only[lr,lrL,lrp,bQ] at h
    subst h;exact ARet.mk trivial hX.symm
   rw[aa hb3] at h_1;cbv;try rw[hg] at h_1
   try rw[ht] at h_1
   refine⟨⟨(k1+1,(wrap .i64 (add v2 1)),x1),hc1_,hs1,h_1⟩,Wk.of [] rfl rfl ?_ ?_,cF hc1_⟩
   ·cbv;all_goals exact⟨⟨_,rfl,rfl⟩,⟨_,rfl,rfl⟩,⟨_,rfl,rfl⟩,trivial⟩
   cbv;all_goals exact trivial
  have hb2:lt v2 (llen (r_Leg a0))=false:=ci hg ht hi1 hc1_;rw[List.drop_of_length_le (Nat.le_of_not_lt hc1_)] at h_1;rw[bT] at h_1;try rw[←hg] at h_1
  try rw[←ht] at h_1
  try dsimp only at h_1
  rw[hb2];cbv;refine⟨v1,Wk.of [] rfl rfl ?_ ?_,h_1.symm⟩
  ·cbv;all_goals exact⟨⟨_,rfl,rfl⟩,trivial⟩
  cbv;all_goals exact trivial
 rintro y1 hy1;replace hy1:=hy1.symm;subst hy1;try dsimp only[lr,lrL,lrp,bQ] at h
 cbv;subst h;exact ARet.mk trivial hX.symm
def ir47:J:=js [jm 4 (ki 0)] [0,1] (js [jm 5 1,jm 6 0,jq 7 (.len false 6),jb 8 .sub .i 5 7,jm 1 8] [1] (.seq (js [jm 9 1,jb 10 .lss .i 9 (ki 0)] [1,10] (.cond 10 (js [jq 4 (.mv (.k (V.i (-1))))] [4] .ret) .skip)) (js [jm 11 1,jm 4 11] [4] .ret)))
def rv47:List RV:=[.t 4]
def fW (g:G) (t:TE) (a0:List Int) (a1:Int):Int:=
 br (g.lt (g.wrap .i64 (g.sub a1 (g.llen (t.r_I64 a0)))) 0)
 (
  (-1))
 (
  (g.wrap .i64 (g.sub a1 (g.llen (t.r_I64 a0)))))
theorem pH {g:G} {t:TE} {a0:List Int} {a1:Int} {r:Int} (hg:g=G.real) (ht:t=TE.real) (h:fW g t a0 a1=r):Fn Tryz.prog 47 [.c (.s 1 (t.r_I64 a0)),.c (.v (.int .i64 a1))] (.c (.r (.v (.int .i64 r)))):=by
 obtain⟨X,hX⟩:=bg (.c (.r (.v (.int .i64 r))):X);rw[←hX];refine aD (rvs:=rv47) (j:=ir47) Tryz.func47 rfl (by kernel_rfl) (nb rfl) (by kernel_rfl) ae ?_;intro g2 F hg2 hF;obtain rfl:g2=g:=hg2.unique.trans hg.symm;clear hg2;obtain⟨wrap,lt,_,_,_,_,_,_,_,_,_,_,_,_,sub,_,_,_,_,_,_,llen⟩:=g2;obtain⟨_,_,_,_,r_I64⟩:=t;unfold fW at h;try dsimp only at h
 cbv
 cases hb1:(lt (wrap .i64 (sub a1 (llen (r_I64 a0)))) 0)
 rotate_left
 ·rw[ab hb1] at h;cbv;subst h;exact ARet.mk trivial hX.symm
 rw[aa hb1] at h;cbv;subst h;exact ARet.mk trivial hX.symm
def ir17:J:=js [jq 2 (.box 0),jm 4 (ki 0)] [1,2] (js [jf 5 0 2,jk 6 5,jm 7 1,jc 8 46 [6,7],jm 1 8] [1,2] (.seq (js [jm 9 1,jb 10 .lss .i 9 (ki 0)] [1,2,10] (.cond 10 (js [jq 4 (.mv (.k (V.i (-1))))] [4] .ret) .skip)) (js [jf 11 1 2,jk 12 11,jm 13 1,jc 14 47 [12,13],jm 1 14] [1] (.seq (js [jm 15 1,jb 16 .lss .i 15 (ki 0)] [1,16] (.cond 16 (js [jq 4 (.mv (.k (V.i (-1))))] [4] .ret) .skip)) (js [jm 17 1,jm 4 17] [4] .ret)))))
def rv17:List RV:=[.t 4]
def dG (g:G) (t:TE) (a0:Network) (a1:Int):Int:=
 lP (fP g t a0.Legs a1) fun x1=>
 br (g.lt x1 0)
 (
  (-1))
 (
  lP (fW g t a0.Off x1) fun x2=>
  br (g.lt x2 0)
  (
   (-1))
  (
   x2))
theorem lC {g:G} {t:TE} {a0:Network} {a1:Int} {r:Int} (hg:g=G.real) (ht:t=TE.real) (h:dG g t a0 a1=r):Fn Tryz.prog 17 [.g (Network.rs t a0),.c (.v (.int .i64 a1))] (.c (.r (.v (.int .i64 r)))):=by
 obtain⟨X,hX⟩:=bg (.c (.r (.v (.int .i64 r))):X);rw[←hX];refine aD (rvs:=rv17) (j:=ir17) Tryz.func17 rfl (by kernel_rfl) (nb rfl) (by kernel_rfl) ae ?_;intro g2 F hg2 hF;obtain rfl:g2=g:=hg2.unique.trans hg.symm;clear hg2;obtain⟨_,lt⟩:=g2;obtain⟨_⟩:=t;obtain⟨a0_Legs,a0_Off,a0_Change⟩:=a0
 unfold dG at h;try dsimp only at h
 cbv;obtain⟨x1,hx1,h⟩:=am h;try dsimp only at h
 refine ACall.mk _ _ rfl (hF _ _ _ (pq hg ht hx1)) (.inl rfl) (nb rfl) ?_;cbv
 cases hb1:(lt x1 0)
 rotate_left
 ·rw[ab hb1] at h;cbv;subst h;exact ARet.mk trivial hX.symm
 rw[aa hb1] at h;cbv;obtain⟨x2,hx2,h⟩:=am h;try dsimp only at h
 refine ACall.mk _ _ rfl (hF _ _ _ (pH hg ht hx2)) (.inl rfl) (nb rfl) ?_;cbv
 cases hb2:(lt x2 0)
 rotate_left
 ·rw[ab hb2] at h;cbv;subst h;exact ARet.mk trivial hX.symm
 rw[aa hb2] at h;cbv;subst h;exact ARet.mk trivial hX.symm
def ir76:J:=js [jq 1 (.box 0),jq 2 (.alloc [.r (.v (.string .empty)),.r (.v (.string .empty)),.r (.v (.int .i64 0)),.r (.v (.int .i64 0)),.r (.v (.int .i64 0)),.r (.v (.int .i64 0))])] [1,2] (js [jq 3 (.alloc [.r (.v (.string .empty)),.r (.v (.string .empty)),.r (.v (.int .i64 0)),.r (.v (.int .i64 0)),.r (.v (.int .i64 0)),.r (.v (.int .i64 0))])] [1,2,3] (js [jf 4 0 1,jk 5 4,jf 6 0 3,jp (.st 1 6 5)] [1,2,3] (js [jf 7 1 1,jk 8 7,jf 9 1 3,jp (.st 1 9 8)] [1,2,3] (js [jf 10 2 1,jk 11 10,jf 12 2 3,jp (.st 1 12 11)] [1,2,3] (js [jf 13 3 1,jk 14 13,jf 15 3 3,jp (.st 1 15 14)] [1,2,3] (js [jf 16 4 1,jk 17 16,jf 18 4 3,jp (.st 1 18 17)] [1,2,3] (js [jf 19 5 1,jk 20 19,jf 21 5 3,jp (.st 1 21 20)] [2,3] (js [jl 22 6 3,jp (.st 6 2 22)] [2] .ret))))))))
def rv76:List RV:=[.c 2 true 6]
def jN (g:G) (t:TE) (a0:Leg):Leg:=
 a0
theorem rz {g:G} {t:TE} {a0:Leg} {r:Leg} (hg:g=G.real) (ht:t=TE.real) (h:jN g t a0=r):Fn Tryz.prog 76 [.g (Leg.rs t a0)] (.g (Leg.ds t r)):=by
 obtain⟨X,hX⟩:=bg (.g (Leg.ds t r):X);rw[←hX];refine aD (rvs:=rv76) (j:=ir76) Tryz.func76 rfl (by kernel_rfl) (nb rfl) (by kernel_rfl) ae ?_;intro g2 F hg2 hF;obtain rfl:g2=g:=hg2.unique.trans hg.symm;clear hg2;obtain⟨_⟩:=g2;obtain⟨_⟩:=t;obtain⟨a0_From,a0_To,a0_Start,a0_Takes,a0_Days,a0_Room⟩:=a0
 unfold jN at h;try dsimp only at h
 cbv;subst h;exact ARet.mk trivial hX.symm
def ir52:J:=js [jq 2 (.mv (.k (.c (.n 6))))] [0] (js [jm 5 0,jq 6 (.len false 5),jq 7 (.mk 6 64 [.r (.v (.string .empty)),.r (.v (.string .empty)),.r (.v (.int .i64 0)),.r (.v (.int .i64 0)),.r (.v (.int .i64 0)),.r (.v (.int .i64 0))] 6),jm 3 7] [0,3] (.seq (js [jm 4 (ki 0)] [0,3,4] (.bl 0 (.seq (js [jm 8 4,jm 9 0,jq 10 (.len false 9),jb 11 .lss .i 8 10] [0,3,4,11] (.cond 11 .skip (.exit 0))) (.seq (.block 1 (.reg none [jm 14 3,jm 15 4,jm 16 0,jm 17 4,ja 18 6 16 17,jl 19 6 18,jc 20 76 [19],ja 21 6 14 15,jp (.st 6 21 20)] [0,3,4])) (.reg none [jm 12 4,jb 13 .add .i 12 (ki 1),jm 4 13] [0,3,4]))))) (js [jm 22 3,jm 2 22] [2] .ret)))
def rv52:List RV:=[.t 2]
def bX (g:G) (t:TE):List Leg→Int→List Leg→Option (List Leg)
 |[],v1,w1=>
  some w1
 |z1::ls1,v1,w1=>
  lP (jN g t z1) fun x1=>
  gd (((0:Int)≤v1∧v1<(((g.dlen (t.d_Leg w1)):Nat):Int)))<|
  gt w1 (g.nat v1) fun x2=>
  lP (List.set w1 (g.nat v1) (Leg.mk x1.From x1.To x1.Start x1.Takes x1.Days x1.Room)) fun(l2:List Leg)=>
  bX g t ls1 (g.wrap .i64 (g.add v1 1)) l2
def fG (g:G) (t:TE) (a0:List Leg):Option (List Leg):=
 gd (((0:Int)≤(g.llen (t.r_Leg a0))∧64* (g.llen (t.r_Leg a0))≤70368744177664∧(g.llen (t.r_Leg a0))≤4611686018427387904))<|
 lP (List.replicate (g.nat (g.llen (t.r_Leg a0))) (Leg.mk ByteArray.empty ByteArray.empty 0 0 0 0)) fun(l1:List Leg)=>
 cl (bX g t a0 0 l1) fun y1=>
 some y1
theorem pe {g:G} {t:TE} {a0:List Leg} {r:List Leg} (hg:g=G.real) (ht:t=TE.real) (h:fG g t a0=some r):Fn Tryz.prog 52 [.c (.s 6 (t.r_Leg a0))] (.c (.o 6 (t.d_Leg r))):=by
 obtain⟨X,hX⟩:=bg (.c (.o 6 (t.d_Leg r)):X);rw[←hX];refine aD (rvs:=rv52) (j:=ir52) Tryz.func52 rfl (by kernel_rfl) (nb rfl) (by kernel_rfl) ae ?_;intro g2 F hg2 hF;obtain rfl:g2=g:=hg2.unique.trans hg.symm;clear hg2;obtain⟨wrap,lt,_,_,_,_,_,_,_,_,_,_,_,add,_,_,_,_,_,_,_,llen,_,_,dlen⟩:=g2;obtain⟨_,_,r_Leg,d_Leg⟩:=t;unfold fG at h;try dsimp only at h
 cbv;obtain⟨hc2,h⟩:=ah h;refine AStep.mk (uO hc2) ?_;cbv;obtain⟨l1,hl1,h⟩:=am h;try dsimp only at h
 refine ANew.mk (d_Leg l1) (dlen (d_Leg l1)) (by rw[←hl1];exact tq hg ht _ (Leg.mk ByteArray.empty ByteArray.empty 0 0 0 0)) (by rw[←hl1];exact q9 hg ht _ (Leg.mk ByteArray.empty ByteArray.empty 0 0 0 0)) ?_;cbv;obtain⟨o1,ho1,h⟩:=ai h;try dsimp only at h
 try rw[hg] at ho1
 try rw[ht] at ho1
 refine ABL.mk {p:Nat×Int×List Leg//p.1≤a0.length∧p.2.1=((p.1:Nat):Int)∧bX G.real TE.real (List.drop p.1 a0) p.2.1 p.2.2=some o1} (fun⟨⟨k1,v1,w1⟩,_⟩=>({sl:=[(0,.c (.r (.s 6 (r_Leg a0)))),(3,.c (.f 0 6 0 (dlen (d_Leg w1)))),(4,.c (.r (.v (.int .i64 v1))))],tab:=[(0,some (.arr 6 (d_Leg w1)))]}:St)) 1 (fun p=>a0.length-p.1.1) ⟨(0,0,l1),Nat.zero_le _,rfl,ho1⟩ (List Leg) (fun y1=>({sl:=[(3,.c (.f 0 6 0 (dlen (d_Leg y1))))],tab:=[(0,some (.arr 6 (d_Leg y1)))]}:St)) 1 (fun y=>o1=y) ?_ ?_ ?_
 ·refine Wk.of [(0,some 48)] rfl rfl ?_ ?_
  ·cbv;all_goals exact⟨⟨_,rfl,rfl⟩,⟨_,rfl,rfl⟩,⟨_,rfl,rfl⟩,trivial⟩
  cbv;all_goals exact⟨⟨_,rfl,rfl⟩,trivial⟩
 ·rintro⟨⟨k1,v1,w1⟩,hk1,hi1,h_1⟩ hq1;have hm1:=(hq1.1 0 _ _ rfl);try dsimp only at hk1 hi1 h_1
  clear hq1;cbv
  by_cases hc1_:k1<a0.length
  ·have hb1:lt v1 (llen (r_Leg a0))=true:=cv hg ht hi1 hc1_;have hs1:=dY hg ht hi1 hc1_ hm1;obtain⟨z1,hz1⟩:=aV hc1_;rw[aF hz1] at h_1;rw[bX] at h_1;obtain⟨z1_From,z1_To,z1_Start,z1_Takes,z1_Days,z1_Room⟩:=z1;try rw[←hg] at h_1
   try rw[←ht] at h_1
   try dsimp only at h_1
   rw[hb1];cbv;refine AStep.mk (fR hi1) ?_;cbv;refine AGet.mk _ (dw hg ht hi1 hz1) ?_;cbv;obtain⟨x1,hx1,h_1⟩:=am h_1;obtain⟨x1_From,x1_To,x1_Start,x1_Takes,x1_Days,x1_Room⟩:=x1;try dsimp only at h_1
   refine ACall.mk _ _ rfl (hF _ _ _ (rz hg ht hx1)) (.inl rfl) (nb rfl) ?_;cbv;obtain⟨hc1,h_1⟩:=ah h_1;refine AStep.mk hc1 ?_;cbv;obtain⟨x2,hx2,h_1⟩:=dc h_1;obtain⟨x2_From,x2_To,x2_Start,x2_Takes,x2_Days,x2_Room⟩:=x2;try dsimp only at h_1
   refine AGet.mk _ (qA hg ht hx2) ?_;cbv;obtain⟨l2,hl2,h_1⟩:=am h_1;try dsimp only at h_1
   refine ANew.mk (d_Leg l2) _ (by rw[←hl2];exact s8 hg ht _ _ (Leg.mk x1_From x1_To x1_Start x1_Takes x1_Days x1_Room)) rfl ?_;have hnl2:(dlen (d_Leg w1))=(d_Leg l2).length:=(by rw[←hl2,qK ht];exact(fS hg ht _));cbv;try rw[hg] at h_1
   try rw[ht] at h_1
   refine⟨⟨(k1+1,(wrap .i64 (add v1 1)),l2),hc1_,hs1,h_1⟩,Wk.of [(0,some 0)] rfl rfl ?_ ?_,cF hc1_⟩
   ·cbv;all_goals try rw[show(dlen (d_Leg w1))=(dlen (d_Leg l2)) from(hnl2).trans (fS hg ht _).symm]
    all_goals exact⟨⟨_,rfl,rfl⟩,⟨_,rfl,rfl⟩,⟨_,rfl,rfl⟩,trivial⟩
   cbv;all_goals try rw[show(dlen (d_Leg w1))=(dlen (d_Leg l2)) from(hnl2).trans (fS hg ht _).symm]
   all_goals exact⟨⟨_,rfl,rfl⟩,trivial⟩
  have hb1:lt v1 (llen (r_Leg a0))=false:=ci hg ht hi1 hc1_;rw[List.drop_of_length_le (Nat.le_of_not_lt hc1_)] at h_1;rw[bX] at h_1;try rw[←hg] at h_1
  try rw[←ht] at h_1
  try dsimp only at h_1
  rw[hb1];cbv;refine⟨w1,Wk.of [(0,some 0)] rfl rfl ?_ ?_,(Option.some.inj h_1).symm⟩
  ·cbv;all_goals exact⟨⟨_,rfl,rfl⟩,trivial⟩
  cbv;all_goals exact⟨⟨_,rfl,rfl⟩,trivial⟩
 rintro y1 hy1;replace hy1:=hy1.symm;subst hy1;try dsimp only[lr,lrL,lrp,bQ] at h
 cbv;obtain rfl:=Option.some.inj h;exact ARet.mk ⟨rfl,(fS hg ht _)⟩ hX.symm
def ir53:J:=js [jq 2 (.mv (.k (.c (.n 1))))] [0] (js [jm 5 0,jq 6 (.len false 5),jq 7 (.mk 1 8 [.r (.v (.int .i64 0))] 6),jm 3 7] [0,3] (.seq (js [jm 4 (ki 0)] [0,3,4] (.bl 0 (.seq (js [jm 8 4,jm 9 0,jq 10 (.len false 9),jb 11 .lss .i 8 10] [0,3,4,11] (.cond 11 .skip (.exit 0))) (.seq (.block 1 (.reg none [jm 14 3,jm 15 4,jm 16 0,jm 17 4,ja 18 1 16 17,jk 19 18,ja 20 1 14 15,jp (.st 1 20 19)] [0,3,4])) (.reg none [jm 12 4,jb 13 .add .i 12 (ki 1),jm 4 13] [0,3,4]))))) (js [jm 21 3,jm 2 21] [2] .ret)))
def rv53:List RV:=[.t 2]
def bU (g:G) (t:TE):List Int→Int→List Int→Option (List Int)
 |[],v1,w1=>
  some w1
 |z1::ls1,v1,w1=>
  gd (((0:Int)≤v1∧v1<(((g.dlen (t.d_I64 w1)):Nat):Int)))<|
  gt w1 (g.nat v1) fun x1=>
  lP (List.set w1 (g.nat v1) z1) fun(l2:List Int)=>
  bU g t ls1 (g.wrap .i64 (g.add v1 1)) l2
def fZ (g:G) (t:TE) (a0:List Int):Option (List Int):=
 gd (((0:Int)≤(g.llen (t.r_I64 a0))∧8* (g.llen (t.r_I64 a0))≤70368744177664∧(g.llen (t.r_I64 a0))≤4611686018427387904))<|
 lP (List.replicate (g.nat (g.llen (t.r_I64 a0))) 0) fun(l1:List Int)=>
 cl (bU g t a0 0 l1) fun y1=>
 some y1
theorem pd {g:G} {t:TE} {a0:List Int} {r:List Int} (hg:g=G.real) (ht:t=TE.real) (h:fZ g t a0=some r):Fn Tryz.prog 53 [.c (.s 1 (t.r_I64 a0))] (.c (.o 1 (t.d_I64 r))):=by
 obtain⟨X,hX⟩:=bg (.c (.o 1 (t.d_I64 r)):X);rw[←hX];refine aD (rvs:=rv53) (j:=ir53) Tryz.func53 rfl (by kernel_rfl) (nb rfl) (by kernel_rfl) ae ?_;intro g2 F hg2 hF;obtain rfl:g2=g:=hg2.unique.trans hg.symm;clear hg2;obtain⟨wrap,lt,_,_,_,_,_,_,_,_,_,_,_,add,_,_,_,_,_,_,_,llen,_,_,dlen⟩:=g2;obtain⟨_,_,_,_,r_I64,d_I64⟩:=t;unfold fZ at h;try dsimp only at h
 cbv;obtain⟨hc2,h⟩:=ah h;refine AStep.mk (uO hc2) ?_;cbv;obtain⟨l1,hl1,h⟩:=am h;try dsimp only at h
 refine ANew.mk (d_I64 l1) (dlen (d_I64 l1)) (by rw[←hl1];exact sE hg ht _ 0) (by rw[←hl1];exact rH hg ht _ 0) ?_;cbv;obtain⟨o1,ho1,h⟩:=ai h;try dsimp only at h
 try rw[hg] at ho1
 try rw[ht] at ho1
 refine ABL.mk {p:Nat×Int×List Int//p.1≤a0.length∧p.2.1=((p.1:Nat):Int)∧bU G.real TE.real (List.drop p.1 a0) p.2.1 p.2.2=some o1} (fun⟨⟨k1,v1,w1⟩,_⟩=>({sl:=[(0,.c (.r (.s 1 (r_I64 a0)))),(3,.c (.f 0 1 0 (dlen (d_I64 w1)))),(4,.c (.r (.v (.int .i64 v1))))],tab:=[(0,some (.arr 1 (d_I64 w1)))]}:St)) 1 (fun p=>a0.length-p.1.1) ⟨(0,0,l1),Nat.zero_le _,rfl,ho1⟩ (List Int) (fun y1=>({sl:=[(3,.c (.f 0 1 0 (dlen (d_I64 y1))))],tab:=[(0,some (.arr 1 (d_I64 y1)))]}:St)) 1 (fun y=>o1=y) ?_ ?_ ?_
 ·refine Wk.of [(0,some 48)] rfl rfl ?_ ?_
  ·cbv;all_goals exact⟨⟨_,rfl,rfl⟩,⟨_,rfl,rfl⟩,⟨_,rfl,rfl⟩,trivial⟩
  cbv;all_goals exact⟨⟨_,rfl,rfl⟩,trivial⟩
 ·rintro⟨⟨k1,v1,w1⟩,hk1,hi1,h_1⟩ hq1;have hm1:=(hq1.1 0 _ _ rfl);try dsimp only at hk1 hi1 h_1
  clear hq1;cbv
  by_cases hc1_:k1<a0.length
  ·have hb1:lt v1 (llen (r_I64 a0))=true:=cw hg ht hi1 hc1_;have hs1:=dW hg ht hi1 hc1_ hm1;obtain⟨z1,hz1⟩:=aV hc1_;rw[aF hz1] at h_1;rw[bU] at h_1;try rw[←hg] at h_1
   try rw[←ht] at h_1
   try dsimp only at h_1
   rw[hb1];cbv;refine AStep.mk (fR hi1) ?_;cbv;refine AGet.mk _ (cM hg ht hi1 hz1) ?_;cbv;obtain⟨hc1,h_1⟩:=ah h_1;refine AStep.mk hc1 ?_;cbv;obtain⟨x1,hx1,h_1⟩:=dc h_1;try dsimp only at h_1
   refine AGet.mk _ (rj hg ht hx1) ?_;cbv;obtain⟨l2,hl2,h_1⟩:=am h_1;try dsimp only at h_1
   refine ANew.mk (d_I64 l2) _ (by rw[←hl2];exact sd hg ht _ _ z1) rfl ?_;have hnl2:(dlen (d_I64 w1))=(d_I64 l2).length:=(by rw[←hl2,qH ht];exact(fV hg ht _));cbv;try rw[hg] at h_1
   try rw[ht] at h_1
   refine⟨⟨(k1+1,(wrap .i64 (add v1 1)),l2),hc1_,hs1,h_1⟩,Wk.of [(0,some 0)] rfl rfl ?_ ?_,cF hc1_⟩
   ·cbv;all_goals try rw[show(dlen (d_I64 w1))=(dlen (d_I64 l2)) from(hnl2).trans (fV hg ht _).symm]
    all_goals exact⟨⟨_,rfl,rfl⟩,⟨_,rfl,rfl⟩,⟨_,rfl,rfl⟩,trivial⟩
   cbv;all_goals try rw[show(dlen (d_I64 w1))=(dlen (d_I64 l2)) from(hnl2).trans (fV hg ht _).symm]
   all_goals exact⟨⟨_,rfl,rfl⟩,trivial⟩
  have hb1:lt v1 (llen (r_I64 a0))=false:=ch hg ht hi1 hc1_;rw[List.drop_of_length_le (Nat.le_of_not_lt hc1_)] at h_1;rw[bU] at h_1;try rw[←hg] at h_1
  try rw[←ht] at h_1
  try dsimp only at h_1
  rw[hb1];cbv;refine⟨w1,Wk.of [(0,some 0)] rfl rfl ?_ ?_,(Option.some.inj h_1).symm⟩
  ·cbv;all_goals exact⟨⟨_,rfl,rfl⟩,trivial⟩
  cbv;all_goals exact⟨⟨_,rfl,rfl⟩,trivial⟩
 rintro y1 hy1;replace hy1:=hy1.symm;subst hy1;try dsimp only[lr,lrL,lrp,bQ] at h
 cbv;obtain rfl:=Option.some.inj h;exact ARet.mk ⟨rfl,(fV hg ht _)⟩ hX.symm
def ir19:J:=js [jq 1 (.box 0),jq 2 (.alloc [.n 6,.n 1,.r (.v (.int .i64 0))])] [1,2] (js [jq 3 (.alloc [.n 6,.n 1,.r (.v (.int .i64 0))])] [1,2,3] (js [jf 4 0 1,jk 5 4,jc 6 52 [5],jf 7 0 3,jp (.st 1 7 6)] [1,2,3] (js [jf 8 1 1,jk 9 8,jc 10 53 [9],jf 11 1 3,jp (.st 1 11 10)] [1,2,3] (js [jf 12 2 1,jk 13 12,jf 14 2 3,jp (.st 1 14 13)] [2,3] (js [jl 15 3 3,jp (.st 3 2 15)] [2] .ret)))))
def rv19:List RV:=[.c 2 true 3]
def cr (g:G) (t:TE) (a0:Network):Option Network:=
 cl (fG g t a0.Legs) fun x1=>
 cl (fZ g t a0.Off) fun x2=>
 some (Network.mk x1 x2 a0.Change)
theorem ez {g:G} {t:TE} {a0:Network} {r:Network} (hg:g=G.real) (ht:t=TE.real) (h:cr g t a0=some r):Fn Tryz.prog 19 [.g (Network.rs t a0)] (.g (Network.ds t r)):=by
 obtain⟨X,hX⟩:=bg (.g (Network.ds t r):X);rw[←hX];refine aD (rvs:=rv19) (j:=ir19) Tryz.func19 rfl (by kernel_rfl) (nb rfl) (by kernel_rfl) ae ?_;intro g2 F hg2 hF;obtain rfl:g2=g:=hg2.unique.trans hg.symm;clear hg2;obtain⟨_⟩:=g2;obtain⟨_⟩:=t;obtain⟨a0_Legs,a0_Off,a0_Change⟩:=a0
 unfold cr at h;try dsimp only at h
 cbv;obtain⟨x1,hx1,h⟩:=ai h;try dsimp only at h
 refine ACall.mk _ _ rfl (hF _ _ _ (pe hg ht hx1)) (.inl rfl) (nb rfl) ?_;cbv;obtain⟨x2,hx2,h⟩:=ai h;try dsimp only at h
 refine ACall.mk _ _ rfl (hF _ _ _ (pd hg ht hx2)) (.inl rfl) (nb rfl) ?_;cbv;obtain rfl:=Option.some.inj h;exact ARet.mk ⟨⟨rfl,(fS hg ht _)⟩,⟨rfl,(fV hg ht _)⟩⟩ hX.symm
def ir77:J:=js [jq 2 (.box 0),jq 3 (.box 1),jm 4 kf] [2,3] (.seq (js [jf 5 0 2,jk 6 5,jf 7 0 3,jk 8 7,jb 9 .neq .s 6 8] [2,3,9] (.cond 9 (js [jm 4 kf] [4] .ret) .skip)) (.seq (js [jf 10 1 2,jk 11 10,jf 12 1 3,jk 13 12,jb 14 .neq .s 11 13] [2,3,14] (.cond 14 (js [jm 4 kf] [4] .ret) .skip)) (.seq (js [jf 15 2 2,jk 16 15,jf 17 2 3,jk 18 17,jb 19 .neq .i 16 18] [2,3,19] (.cond 19 (js [jm 4 kf] [4] .ret) .skip)) (.seq (js [jf 20 3 2,jk 21 20,jf 22 3 3,jk 23 22,jb 24 .neq .i 21 23] [2,3,24] (.cond 24 (js [jm 4 kf] [4] .ret) .skip)) (.seq (js [jf 25 4 2,jk 26 25,jf 27 4 3,jk 28 27,jb 29 .neq .i 26 28] [2,3,29] (.cond 29 (js [jm 4 kf] [4] .ret) .skip)) (.seq (js [jf 30 5 2,jk 31 30,jf 32 5 3,jk 33 32,jb 34 .neq .i 31 33] [34] (.cond 34 (js [jm 4 kf] [4] .ret) .skip)) (js [jm 4 kt] [4] .ret)))))))
def rv77:List RV:=[.t 4]
def hZ (g:G) (t:TE) (a0:Leg) (a1:Leg):Bool:=
 br (g.seq a0.From a1.From)
 (
  br (g.seq a0.To a1.To)
  (
   br (g.eq a0.Start a1.Start)
   (
    br (g.eq a0.Takes a1.Takes)
    (
     br (g.eq a0.Days a1.Days)
     (
      br (g.eq a0.Room a1.Room)
      (
       true)
      (
       false))
     (
      false))
    (
     false))
   (
    false))
  (
   false))
 (
  false)
theorem rO {g:G} {t:TE} {a0:Leg} {a1:Leg} {r:Bool} (hg:g=G.real) (ht:t=TE.real) (h:hZ g t a0 a1=r):Fn Tryz.prog 77 [.g (Leg.rs t a0),.g (Leg.rs t a1)] (.c (.r (.v (.bool r)))):=by
 obtain⟨X,hX⟩:=bg (.c (.r (.v (.bool r))):X);rw[←hX];refine aD (rvs:=rv77) (j:=ir77) Tryz.func77 rfl (by kernel_rfl) (nb rfl) (by kernel_rfl) ae ?_;intro g2 F hg2 hF;obtain rfl:g2=g:=hg2.unique.trans hg.symm;clear hg2;obtain⟨_,_,_,eq,_,_,_,_,_,_,_,_,_,_,_,_,_,seq⟩:=g2;obtain⟨_⟩:=t;obtain⟨a0_From,a0_To,a0_Start,a0_Takes,a0_Days,a0_Room⟩:=a0
 obtain⟨a1_From,a1_To,a1_Start,a1_Takes,a1_Days,a1_Room⟩:=a1;unfold hZ at h;try dsimp only at h
 cbv
 cases hb1:(seq a0_From a1_From)
 ·rw[aa hb1] at h;cbv;subst h;exact ARet.mk trivial hX.symm
 rw[ab hb1] at h;cbv
 cases hb2:(seq a0_To a1_To)
 ·rw[aa hb2] at h;cbv;subst h;exact ARet.mk trivial hX.symm
 rw[ab hb2] at h;cbv
 cases hb3:(eq a0_Start a1_Start)
 ·rw[aa hb3] at h;cbv;subst h;exact ARet.mk trivial hX.symm
 rw[ab hb3] at h;cbv
 cases hb4:(eq a0_Takes a1_Takes)
 ·rw[aa hb4] at h;cbv;subst h;exact ARet.mk trivial hX.symm
 rw[ab hb4] at h;cbv
 cases hb5:(eq a0_Days a1_Days)
 ·rw[aa hb5] at h;cbv;subst h;exact ARet.mk trivial hX.symm
 rw[ab hb5] at h;cbv
 cases hb6:(eq a0_Room a1_Room)
 rotate_left
 ·rw[ab hb6] at h;cbv;subst h;exact ARet.mk trivial hX.symm
 rw[aa hb6] at h;cbv;subst h;exact ARet.mk trivial hX.symm
def ir55:J:=js [jm 4 kf] [0,1] (.seq (js [jm 6 0,jq 7 (.len false 6),jm 8 1,jq 9 (.len false 8),jb 10 .neq .i 7 9] [0,1,10] (.cond 10 (js [jm 4 kf] [4] .ret) .skip)) (.seq (js [jm 5 (ki 0)] [0,1,5] (.bl 0 (.seq (js [jm 11 5,jm 12 0,jq 13 (.len false 12),jb 14 .lss .i 11 13] [0,1,5,14] (.cond 14 .skip (.exit 0))) (.seq (.block 1 (.seq (.reg (some [[],[],[0,1],[0,1,2],[],[],[4,5],[4,5,6],[0,1,2,3,4,5,6,7],[0,1,2,3,4,5,6,7,8]]) [jm 17 0,jm 18 5,ja 19 6 17 18,jl 20 6 19,jm 21 1,jm 22 5,ja 23 6 21 22,jl 24 6 23,jc 25 77 [20,24],jq 26 (.not 25)] [0,1,5,26]) (.cond 26 (js [jm 4 kf] [4] .ret) .skip))) (.reg none [jm 15 5,jb 16 .add .i 15 (ki 1),jm 5 16] [0,1,5]))))) (js [jm 4 kt] [4] .ret)))
def rv55:List RV:=[.t 4]
def bW (g:G) (t:TE) (a1:List Leg):List Leg→Int→Option (LR Bool Unit)
 |[],v1=>
  some (LR.out ())
 |z1::ls1,v1=>
  gt a1 (g.nat v1) fun x1=>
  lP (hZ g t z1 x1) fun x2=>
  br x2
  (
   bW g t a1 ls1 (g.wrap .i64 (g.add v1 1)))
  (
   some (LR.ret false))
def fO (g:G) (t:TE) (a0:List Leg) (a1:List Leg):Option Bool:=
 br (g.eq (g.llen (t.r_Leg a0)) (g.llen (t.r_Leg a1)))
 (
  cl (bW g t a1 a0 0) fun o1=>lr o1 fun y1=>
  some true)
 (
  some false)
theorem pA {g:G} {t:TE} {a0:List Leg} {a1:List Leg} {r:Bool} (hg:g=G.real) (ht:t=TE.real) (h:fO g t a0 a1=some r):Fn Tryz.prog 55 [.c (.s 6 (t.r_Leg a0)),.c (.s 6 (t.r_Leg a1))] (.c (.r (.v (.bool r)))):=by
 obtain⟨X,hX⟩:=bg (.c (.r (.v (.bool r))):X);rw[←hX];refine aD (rvs:=rv55) (j:=ir55) Tryz.func55 rfl (by kernel_rfl) (nb rfl) (by kernel_rfl) ae ?_;intro g2 F hg2 hF;obtain rfl:g2=g:=hg2.unique.trans hg.symm;clear hg2;obtain⟨wrap,lt,_,eq,_,_,_,_,_,_,_,_,_,add,_,_,_,_,_,_,_,llen⟩:=g2;obtain⟨_,_,r_Leg⟩:=t;unfold fO at h;try dsimp only at h
 cbv
 cases hb1:(eq (llen (r_Leg a0)) (llen (r_Leg a1)))
 ·rw[aa hb1] at h;cbv;obtain rfl:=Option.some.inj h;exact ARet.mk trivial hX.symm
 rw[ab hb1] at h;cbv;obtain⟨o1,ho1,h⟩:=ai h;try dsimp only at h
 try rw[hg] at ho1
 try rw[ht] at ho1
 refine ABL.mk {p:Nat×Int//p.1≤a0.length∧p.2=((p.1:Nat):Int)∧bW G.real TE.real a1 (List.drop p.1 a0) p.2=some o1} (fun⟨⟨k1,v1⟩,_⟩=>({sl:=[(0,.c (.r (.s 6 (r_Leg a0)))),(1,.c (.r (.s 6 (r_Leg a1)))),(5,.c (.r (.v (.int .i64 v1))))],tab:=[]}:St)) 0 (fun p=>a0.length-p.1.1) ⟨(0,0),Nat.zero_le _,rfl,ho1⟩ (Unit) (fun _=>({sl:=[],tab:=[]}:St)) 0 (fun y=>o1=LR.out y) ?_ ?_ ?_
 ·refine Wk.of [] rfl rfl ?_ ?_
  ·cbv;all_goals exact⟨⟨_,rfl,rfl⟩,⟨_,rfl,rfl⟩,⟨_,rfl,rfl⟩,trivial⟩
  cbv;all_goals exact trivial
 ·rintro⟨⟨k1,v1⟩,hk1,hi1,h_1⟩ hq1;have hm1:=(hq1.1 0 _ _ rfl);try dsimp only at hk1 hi1 h_1
  clear hq1;cbv
  by_cases hc1_:k1<a0.length
  ·have hb2:lt v1 (llen (r_Leg a0))=true:=cv hg ht hi1 hc1_;have hs1:=dY hg ht hi1 hc1_ hm1;obtain⟨z1,hz1⟩:=aV hc1_;rw[aF hz1] at h_1;rw[bW] at h_1;obtain⟨z1_From,z1_To,z1_Start,z1_Takes,z1_Days,z1_Room⟩:=z1;try rw[←hg] at h_1
   try rw[←ht] at h_1
   try dsimp only at h_1
   rw[hb2];cbv;refine AStep.mk (fR hi1) ?_;cbv;refine AGet.mk _ (dw hg ht hi1 hz1) ?_;cbv;refine AStep.mk (fR hi1) ?_;cbv;obtain⟨x1,hx1,h_1⟩:=dc h_1;obtain⟨x1_From,x1_To,x1_Start,x1_Takes,x1_Days,x1_Room⟩:=x1;try dsimp only at h_1
   refine AGet.mk _ (cg hg ht hx1) ?_;cbv;obtain⟨x2,hx2,h_1⟩:=am h_1;try dsimp only at h_1
   refine ACall.mk _ _ rfl (hF _ _ _ (rO hg ht hx2)) (.inl rfl) (nb rfl) ?_;cbv
   cases hb3:x2
   ·rw[aa hb3] at h_1;cbv;obtain rfl:=Option.some.inj h_1;try dsimp only[lr,lrL,lrp,bQ] at h
    obtain rfl:=Option.some.inj h;exact ARet.mk trivial hX.symm
   rw[ab hb3] at h_1;cbv;try rw[hg] at h_1
   try rw[ht] at h_1
   refine⟨⟨(k1+1,(wrap .i64 (add v1 1))),hc1_,hs1,h_1⟩,Wk.of [] rfl rfl ?_ ?_,cF hc1_⟩
   ·cbv;all_goals exact⟨⟨_,rfl,rfl⟩,⟨_,rfl,rfl⟩,⟨_,rfl,rfl⟩,trivial⟩
   cbv;all_goals exact trivial
  have hb2:lt v1 (llen (r_Leg a0))=false:=ci hg ht hi1 hc1_;rw[List.drop_of_length_le (Nat.le_of_not_lt hc1_)] at h_1;rw[bW] at h_1;try rw[←hg] at h_1
  try rw[←ht] at h_1
  try dsimp only at h_1
  rw[hb2];cbv;refine⟨(),Wk.of [] rfl rfl ?_ ?_,(Option.some.inj h_1).symm⟩
  ·cbv;all_goals exact trivial
  cbv;all_goals exact trivial
 rintro _ hy1;replace hy1:=hy1.symm;subst hy1;try dsimp only[lr,lrL,lrp,bQ] at h
 cbv;obtain rfl:=Option.some.inj h;exact ARet.mk trivial hX.symm
def ir56:J:=js [jm 4 kf] [0,1] (.seq (js [jm 6 0,jq 7 (.len false 6),jm 8 1,jq 9 (.len false 8),jb 10 .neq .i 7 9] [0,1,10] (.cond 10 (js [jm 4 kf] [4] .ret) .skip)) (.seq (js [jm 5 (ki 0)] [0,1,5] (.bl 0 (.seq (js [jm 11 5,jm 12 0,jq 13 (.len false 12),jb 14 .lss .i 11 13] [0,1,5,14] (.cond 14 .skip (.exit 0))) (.seq (.block 1 (.seq (.reg (some [[],[],[0,1],[0,1,2],[],[],[4,5],[4,5,6],[0,1,2,3,4,5,6,7]]) [jm 17 0,jm 18 5,ja 19 1 17 18,jk 20 19,jm 21 1,jm 22 5,ja 23 1 21 22,jk 24 23,jb 25 .neq .i 20 24] [0,1,5,25]) (.cond 25 (js [jm 4 kf] [4] .ret) .skip))) (.reg none [jm 15 5,jb 16 .add .i 15 (ki 1),jm 5 16] [0,1,5]))))) (js [jm 4 kt] [4] .ret)))
def rv56:List RV:=[.t 4]
def bR (g:G) (t:TE) (a1:List Int):List Int→Int→Option (LR Bool Unit)
 |[],v1=>
  some (LR.out ())
 |z1::ls1,v1=>
  gt a1 (g.nat v1) fun x1=>
  br (g.eq z1 x1)
  (
   bR g t a1 ls1 (g.wrap .i64 (g.add v1 1)))
  (
   some (LR.ret false))
def fv (g:G) (t:TE) (a0:List Int) (a1:List Int):Option Bool:=
 br (g.eq (g.llen (t.r_I64 a0)) (g.llen (t.r_I64 a1)))
 (
  cl (bR g t a1 a0 0) fun o1=>lr o1 fun y1=>
  some true)
 (
  some false)
theorem oT {g:G} {t:TE} {a0:List Int} {a1:List Int} {r:Bool} (hg:g=G.real) (ht:t=TE.real) (h:fv g t a0 a1=some r):Fn Tryz.prog 56 [.c (.s 1 (t.r_I64 a0)),.c (.s 1 (t.r_I64 a1))] (.c (.r (.v (.bool r)))):=by
 obtain⟨X,hX⟩:=bg (.c (.r (.v (.bool r))):X);rw[←hX];refine aD (rvs:=rv56) (j:=ir56) Tryz.func56 rfl (by kernel_rfl) (nb rfl) (by kernel_rfl) ae ?_;intro g2 F hg2 hF;obtain rfl:g2=g:=hg2.unique.trans hg.symm;clear hg2;obtain⟨wrap,lt,_,eq,_,_,_,_,_,_,_,_,_,add,_,_,_,_,_,_,_,llen⟩:=g2;obtain⟨_,_,_,_,r_I64⟩:=t;unfold fv at h;try dsimp only at h
 cbv
 cases hb1:(eq (llen (r_I64 a0)) (llen (r_I64 a1)))
 ·rw[aa hb1] at h;cbv;obtain rfl:=Option.some.inj h;exact ARet.mk trivial hX.symm
 rw[ab hb1] at h;cbv;obtain⟨o1,ho1,h⟩:=ai h;try dsimp only at h
 try rw[hg] at ho1
 try rw[ht] at ho1
 refine ABL.mk {p:Nat×Int//p.1≤a0.length∧p.2=((p.1:Nat):Int)∧bR G.real TE.real a1 (List.drop p.1 a0) p.2=some o1} (fun⟨⟨k1,v1⟩,_⟩=>({sl:=[(0,.c (.r (.s 1 (r_I64 a0)))),(1,.c (.r (.s 1 (r_I64 a1)))),(5,.c (.r (.v (.int .i64 v1))))],tab:=[]}:St)) 0 (fun p=>a0.length-p.1.1) ⟨(0,0),Nat.zero_le _,rfl,ho1⟩ (Unit) (fun _=>({sl:=[],tab:=[]}:St)) 0 (fun y=>o1=LR.out y) ?_ ?_ ?_
 ·refine Wk.of [] rfl rfl ?_ ?_
  ·cbv;all_goals exact⟨⟨_,rfl,rfl⟩,⟨_,rfl,rfl⟩,⟨_,rfl,rfl⟩,trivial⟩
  cbv;all_goals exact trivial
 ·rintro⟨⟨k1,v1⟩,hk1,hi1,h_1⟩ hq1;have hm1:=(hq1.1 0 _ _ rfl);try dsimp only at hk1 hi1 h_1
  clear hq1;cbv
  by_cases hc1_:k1<a0.length
  ·have hb2:lt v1 (llen (r_I64 a0))=true:=cw hg ht hi1 hc1_;have hs1:=dW hg ht hi1 hc1_ hm1;obtain⟨z1,hz1⟩:=aV hc1_;rw[aF hz1] at h_1;rw[bR] at h_1;try rw[←hg] at h_1
   try rw[←ht] at h_1
   try dsimp only at h_1
   rw[hb2];cbv;refine AStep.mk (fR hi1) ?_;cbv;refine AGet.mk _ (cM hg ht hi1 hz1) ?_;cbv;refine AStep.mk (fR hi1) ?_;cbv;obtain⟨x1,hx1,h_1⟩:=dc h_1;try dsimp only at h_1
   refine AGet.mk _ (gb hg ht hx1) ?_;cbv
   cases hb3:(eq z1 x1)
   ·rw[aa hb3] at h_1;cbv;obtain rfl:=Option.some.inj h_1;try dsimp only[lr,lrL,lrp,bQ] at h
    obtain rfl:=Option.some.inj h;exact ARet.mk trivial hX.symm
   rw[ab hb3] at h_1;cbv;try rw[hg] at h_1
   try rw[ht] at h_1
   refine⟨⟨(k1+1,(wrap .i64 (add v1 1))),hc1_,hs1,h_1⟩,Wk.of [] rfl rfl ?_ ?_,cF hc1_⟩
   ·cbv;all_goals exact⟨⟨_,rfl,rfl⟩,⟨_,rfl,rfl⟩,⟨_,rfl,rfl⟩,trivial⟩
   cbv;all_goals exact trivial
  have hb2:lt v1 (llen (r_I64 a0))=false:=ch hg ht hi1 hc1_;rw[List.drop_of_length_le (Nat.le_of_not_lt hc1_)] at h_1;rw[bR] at h_1;try rw[←hg] at h_1
  try rw[←ht] at h_1
  try dsimp only at h_1
  rw[hb2];cbv;refine⟨(),Wk.of [] rfl rfl ?_ ?_,(Option.some.inj h_1).symm⟩
  ·cbv;all_goals exact trivial
  cbv;all_goals exact trivial
 rintro _ hy1;replace hy1:=hy1.symm;subst hy1;try dsimp only[lr,lrL,lrp,bQ] at h
 cbv;obtain rfl:=Option.some.inj h;exact ARet.mk trivial hX.symm
def ir21:J:=js [jq 2 (.box 0),jq 3 (.box 1),jm 4 kf] [2,3] (.seq (js [jf 5 0 2,jk 6 5,jf 7 0 3,jk 8 7,jc 9 55 [6,8],jq 10 (.not 9)] [2,3,10] (.cond 10 (js [jm 4 kf] [4] .ret) .skip)) (.seq (js [jf 11 1 2,jk 12 11,jf 13 1 3,jk 14 13,jc 15 56 [12,14],jq 16 (.not 15)] [2,3,16] (.cond 16 (js [jm 4 kf] [4] .ret) .skip)) (.seq (js [jf 17 2 2,jk 18 17,jf 19 2 3,jk 20 19,jb 21 .neq .i 18 20] [21] (.cond 21 (js [jm 4 kf] [4] .ret) .skip)) (js [jm 4 kt] [4] .ret))))
def rv21:List RV:=[.t 4]
def dA (g:G) (t:TE) (a0:Network) (a1:Network):Option Bool:=
 cl (fO g t a0.Legs a1.Legs) fun x1=>
 br x1
 (
  cl (fv g t a0.Off a1.Off) fun x2=>
  br x2
  (
   br (g.eq a0.Change a1.Change)
   (
    some true)
   (
    some false))
  (
   some false))
 (
  some false)
theorem lD {g:G} {t:TE} {a0:Network} {a1:Network} {r:Bool} (hg:g=G.real) (ht:t=TE.real) (h:dA g t a0 a1=some r):Fn Tryz.prog 21 [.g (Network.rs t a0),.g (Network.rs t a1)] (.c (.r (.v (.bool r)))):=by
 obtain⟨X,hX⟩:=bg (.c (.r (.v (.bool r))):X);rw[←hX];refine aD (rvs:=rv21) (j:=ir21) Tryz.func21 rfl (by kernel_rfl) (nb rfl) (by kernel_rfl) ae ?_;intro g2 F hg2 hF;obtain rfl:g2=g:=hg2.unique.trans hg.symm;clear hg2;obtain⟨_,_,_,eq⟩:=g2;obtain⟨_⟩:=t;obtain⟨a0_Legs,a0_Off,a0_Change⟩:=a0
 obtain⟨a1_Legs,a1_Off,a1_Change⟩:=a1;unfold dA at h;try dsimp only at h
 cbv;obtain⟨x1,hx1,h⟩:=ai h;try dsimp only at h
 refine ACall.mk _ _ rfl (hF _ _ _ (pA hg ht hx1)) (.inl rfl) (nb rfl) ?_;cbv
 cases hb1:x1
 ·rw[aa hb1] at h;cbv;obtain rfl:=Option.some.inj h;exact ARet.mk trivial hX.symm
 rw[ab hb1] at h;cbv;obtain⟨x2,hx2,h⟩:=ai h;try dsimp only at h
 refine ACall.mk _ _ rfl (hF _ _ _ (oT hg ht hx2)) (.inl rfl) (nb rfl) ?_;cbv
 cases hb2:x2
 ·rw[aa hb2] at h;cbv;obtain rfl:=Option.some.inj h;exact ARet.mk trivial hX.symm
 rw[ab hb2] at h;cbv
 cases hb3:(eq a0_Change a1_Change)
 rotate_left
 ·rw[ab hb3] at h;cbv;obtain rfl:=Option.some.inj h;exact ARet.mk trivial hX.symm
 rw[aa hb3] at h;cbv;obtain rfl:=Option.some.inj h;exact ARet.mk trivial hX.symm
def ir22:J:=js [jq 2 (.box 0),jm 4 (ki 0)] [1,2] (js [jm 5 1,jf 6 3 2,jk 7 6,jq 8 (.len true 7),jb 9 .sub .i 5 8,jm 1 9] [1] (.seq (js [jm 10 1,jb 11 .lss .i 10 (ki 0)] [1,11] (.cond 11 (js [jq 4 (.mv (.k (V.i (-1))))] [4] .ret) .skip)) (js [jm 12 1,jm 4 12] [4] .ret)))
def rv22:List RV:=[.t 4]
def fX (g:G) (t:TE) (a0:Scan) (a1:Int):Int:=
 br (g.lt (g.wrap .i64 (g.sub a1 (g.int (g.slen a0.Place)))) 0)
 (
  (-1))
 (
  (g.wrap .i64 (g.sub a1 (g.int (g.slen a0.Place)))))
theorem pz {g:G} {t:TE} {a0:Scan} {a1:Int} {r:Int} (hg:g=G.real) (ht:t=TE.real) (h:fX g t a0 a1=r):Fn Tryz.prog 22 [.g (Scan.rs t a0),.c (.v (.int .i64 a1))] (.c (.r (.v (.int .i64 r)))):=by
 obtain⟨X,hX⟩:=bg (.c (.r (.v (.int .i64 r))):X);rw[←hX];refine aD (rvs:=rv22) (j:=ir22) Tryz.func22 rfl (by kernel_rfl) (nb rfl) (by kernel_rfl) ae ?_;intro g2 F hg2 hF;obtain rfl:g2=g:=hg2.unique.trans hg.symm;clear hg2;obtain⟨wrap,lt,_,_,_,_,_,_,_,_,_,_,int,_,sub,_,_,_,_,_,_,_,_,_,_,_,_,_,_,_,_,_,_,_,_,slen⟩:=g2;obtain⟨_⟩:=t;obtain⟨a0_Thing,a0_At,a0_Kind,a0_Place,⟨a0_Trip_Leg,a0_Trip_Day⟩⟩:=a0
 unfold fX at h;try dsimp only at h
 cbv
 cases hb1:(lt (wrap .i64 (sub a1 (int (slen a0_Place)))) 0)
 rotate_left
 ·rw[ab hb1] at h;cbv;subst h;exact ARet.mk trivial hX.symm
 rw[aa hb1] at h;cbv;subst h;exact ARet.mk trivial hX.symm
def ir16:J:=js [jq 1 (.box 0),jq 2 (.mv (.k (.c (.n 1))))] [1] (js [jq 7 (.bsl 1 []),jm 3 7] [1,3] (.seq (js [jm 4 (ki 0)] [1,3,4] (.bl 0 (.seq (js [jm 8 4,jf 9 0 1,jk 10 9,jq 11 (.len false 10),jb 12 .mul .i (ki 2) 11,jb 13 .lss .i 8 12] [1,3,4,13] (.cond 13 .skip (.exit 0))) (.seq (.block 1 (js [jf 16 0 1,jk 17 16,jm 18 4,jb 19 .quo .i 18 (ki 2),ja 20 6 17 19,jf 21 0 20,jk 22 21,jm 5 22] [1,3,4,5] (.seq (js [jm 23 4,jb 24 .rem .i 23 (ki 2),jb 25 .eql .i 24 (ki 1)] [1,3,4,5,25] (.cond 25 (.reg none [jf 26 0 1,jk 27 26,jm 28 4,jb 29 .quo .i 28 (ki 2),ja 30 6 27 29,jf 31 1 30,jk 32 31,jm 5 32] [1,3,4,5]) .skip)) (js [jm 6 (ki 0)] [1,3,4,5,6] (.seq (.bl 2 (.seq (js [jm 33 6,jm 34 3,jq 35 (.len false 34),jb 36 .lss .i 33 35,jm 37 36,ju 38 37 (.mv 3),ju 39 37 (.mv 6),ju 40 37 (.ia 1 38 39),ju 41 37 (.ld false 1 40),ju 42 37 (.mv 5),ju 43 37 (.bin .lss .s 41 42),jq 44 (.pick 37 43 kf)] [1,3,4,5,6,44] (.cond 44 .skip (.exit 2))) (.block 3 (.reg none [jm 45 6,jb 46 .add .i 45 (ki 1),jm 6 46] [1,3,4,5,6])))) (js [jm 47 6,jm 48 3,jq 49 (.len false 48),jb 50 .eql .i 47 49,jm 51 50,jv 52 51 (.mv 3),jv 53 51 (.mv 6),jv 54 51 (.ia 1 52 53),jv 55 51 (.ld false 1 54),jv 56 51 (.mv 5),jv 57 51 (.bin .neq .s 55 56),jq 58 (.pick 51 kt 57)] [1,3,4,5,6,58] (.cond 58 (.reg (some [[],[],[],[1,2],[0,1,2,3],[],[5],[0,1,2,3,4,5,6],[],[],[8,9],[0,1,2,3,4,5,6,7,8,9,10],[0,1,2,3,4,5,6,7,8,9,10,11]]) [jq 59 (.bsl 1 []),jm 60 3,jm 61 6,jq 62 (.sl 1 60 none (some 61)),jq 63 (.app 1 16 false 59 62),jm 64 5,jq 65 (.bsl 1 [64]),jq 66 (.app 1 16 true 63 65),jm 67 3,jm 68 6,jq 69 (.sl 1 67 (some 68) none),jq 70 (.app 1 16 false 66 69),jm 3 70] [1,3,4]) .skip))))))) (.reg none [jm 14 4,jb 15 .add .i 14 (ki 1),jm 4 15] [1,3,4]))))) (js [jm 71 3,jm 2 71] [2] .ret)))
def rv16:List RV:=[.t 2]
def bc (g:G) (t:TE) (w1:List ByteArray) (x1:Leg):Nat→Int→Option Int
 |0,v3=>
  some v3
 |n3+1,v3=>
  gt w1 (g.nat v3) fun x4=>
  br (g.slt x4 x1.From)
  (
   bc g t w1 x1 n3 (g.wrap .i64 (g.add v3 1)))
  (
   some v3)
def bf (g:G) (t:TE) (w1:List ByteArray) (x1:Leg):Nat→Int→Option Int
 |0,v2=>
  some v2
 |n2+1,v2=>
  gt w1 (g.nat v2) fun x2=>
  br (g.slt x2 x1.To)
  (
   bf g t w1 x1 n2 (g.wrap .i64 (g.add v2 1)))
  (
   some v2)
def ar (g:G) (t:TE) (a0:Network):Nat→Int→List ByteArray→Option (List ByteArray)
 |0,v1,w1=>
  some w1
 |n1+1,v1,w1=>
  gd (((0:Int)≤(g.wrap .i64 (g.quo v1 2))))<|
  gt a0.Legs (g.nat (g.wrap .i64 (g.quo v1 2))) fun x1=>
  br (g.eq (g.rem v1 2) 1)
  (
   gd (((0:Int)≤(g.wrap .i64 (g.quo v1 2))))<|
   gd (((g.int (g.dlen (t.d_S w1)))≤9223372036854775807))<|
   cl (bf g t w1 x1 (a9 0 (g.int (g.dlen (t.d_S w1)))) 0) fun y1=>
   br (g.eq y1 (g.int (g.dlen (t.d_S w1))))
   (
    lP ([]) fun(l2:List ByteArray)=>
    gd (((0:Int)≤0∧0≤y1∧y1≤(((g.dlen (t.d_S w1)):Nat):Int)))<|
    gd (((g.nat 0)+(g.nsub (g.nat y1) (g.nat 0))≤w1.length))<|
    gd (((l2.length+(List.take (g.nsub (g.nat y1) (g.nat 0)) (List.drop (g.nat 0) w1)).length)*16≤70368744177664))<|
    lP (l2++(List.take (g.nsub (g.nat y1) (g.nat 0)) (List.drop (g.nat 0) w1))) fun(l3:List ByteArray)=>
    lP ([x1.To]) fun(l4:List ByteArray)=>
    gd (((l3.length+l4.length)*16≤70368744177664))<|
    lP (l3++l4) fun(l5:List ByteArray)=>
    gd (((0:Int)≤y1∧y1≤(g.int (g.dlen (t.d_S w1)))∧(g.int (g.dlen (t.d_S w1)))≤(((g.dlen (t.d_S w1)):Nat):Int)))<|
    gd (((g.nat y1)+(g.nsub (g.nat (g.int (g.dlen (t.d_S w1)))) (g.nat y1))≤w1.length))<|
    gd (((l5.length+(List.take (g.nsub (g.nat (g.int (g.dlen (t.d_S w1)))) (g.nat y1)) (List.drop (g.nat y1) w1)).length)*16≤70368744177664))<|
    lP (l5++(List.take (g.nsub (g.nat (g.int (g.dlen (t.d_S w1)))) (g.nat y1)) (List.drop (g.nat y1) w1))) fun(l6:List ByteArray)=>
    ar g t a0 n1 (g.wrap .i64 (g.add v1 1)) l6)
   (
    gd (((0:Int)≤y1∧y1<(((g.dlen (t.d_S w1)):Nat):Int)))<|
    gt w1 (g.nat y1) fun x3=>
    br (g.seq x3 x1.To)
    (
     ar g t a0 n1 (g.wrap .i64 (g.add v1 1)) w1)
    (
     lP ([]) fun(l7:List ByteArray)=>
     gd (((0:Int)≤0∧0≤y1∧y1≤(((g.dlen (t.d_S w1)):Nat):Int)))<|
     gd (((g.nat 0)+(g.nsub (g.nat y1) (g.nat 0))≤w1.length))<|
     gd (((l7.length+(List.take (g.nsub (g.nat y1) (g.nat 0)) (List.drop (g.nat 0) w1)).length)*16≤70368744177664))<|
     lP (l7++(List.take (g.nsub (g.nat y1) (g.nat 0)) (List.drop (g.nat 0) w1))) fun(l8:List ByteArray)=>
     lP ([x1.To]) fun(l9:List ByteArray)=>
     gd (((l8.length+l9.length)*16≤70368744177664))<|
     lP (l8++l9) fun(l10:List ByteArray)=>
     gd (((0:Int)≤y1∧y1≤(g.int (g.dlen (t.d_S w1)))∧(g.int (g.dlen (t.d_S w1)))≤(((g.dlen (t.d_S w1)):Nat):Int)))<|
     gd (((g.nat y1)+(g.nsub (g.nat (g.int (g.dlen (t.d_S w1)))) (g.nat y1))≤w1.length))<|
     gd (((l10.length+(List.take (g.nsub (g.nat (g.int (g.dlen (t.d_S w1)))) (g.nat y1)) (List.drop (g.nat y1) w1)).length)*16≤70368744177664))<|
     lP (l10++(List.take (g.nsub (g.nat (g.int (g.dlen (t.d_S w1)))) (g.nat y1)) (List.drop (g.nat y1) w1))) fun(l11:List ByteArray)=>
     ar g t a0 n1 (g.wrap .i64 (g.add v1 1)) l11)))
  (
   gd (((g.int (g.dlen (t.d_S w1)))≤9223372036854775807))<|
   cl (bc g t w1 x1 (a9 0 (g.int (g.dlen (t.d_S w1)))) 0) fun y2=>
   br (g.eq y2 (g.int (g.dlen (t.d_S w1))))
   (
    lP ([]) fun(l12:List ByteArray)=>
    gd (((0:Int)≤0∧0≤y2∧y2≤(((g.dlen (t.d_S w1)):Nat):Int)))<|
    gd (((g.nat 0)+(g.nsub (g.nat y2) (g.nat 0))≤w1.length))<|
    gd (((l12.length+(List.take (g.nsub (g.nat y2) (g.nat 0)) (List.drop (g.nat 0) w1)).length)*16≤70368744177664))<|
    lP (l12++(List.take (g.nsub (g.nat y2) (g.nat 0)) (List.drop (g.nat 0) w1))) fun(l13:List ByteArray)=>
    lP ([x1.From]) fun(l14:List ByteArray)=>
    gd (((l13.length+l14.length)*16≤70368744177664))<|
    lP (l13++l14) fun(l15:List ByteArray)=>
    gd (((0:Int)≤y2∧y2≤(g.int (g.dlen (t.d_S w1)))∧(g.int (g.dlen (t.d_S w1)))≤(((g.dlen (t.d_S w1)):Nat):Int)))<|
    gd (((g.nat y2)+(g.nsub (g.nat (g.int (g.dlen (t.d_S w1)))) (g.nat y2))≤w1.length))<|
    gd (((l15.length+(List.take (g.nsub (g.nat (g.int (g.dlen (t.d_S w1)))) (g.nat y2)) (List.drop (g.nat y2) w1)).length)*16≤70368744177664))<|
    lP (l15++(List.take (g.nsub (g.nat (g.int (g.dlen (t.d_S w1)))) (g.nat y2)) (List.drop (g.nat y2) w1))) fun(l16:List ByteArray)=>
    ar g t a0 n1 (g.wrap .i64 (g.add v1 1)) l16)
   (
    gd (((0:Int)≤y2∧y2<(((g.dlen (t.d_S w1)):Nat):Int)))<|
    gt w1 (g.nat y2) fun x5=>
    br (g.seq x5 x1.From)
    (
     ar g t a0 n1 (g.wrap .i64 (g.add v1 1)) w1)
    (
     lP ([]) fun(l17:List ByteArray)=>
     gd (((0:Int)≤0∧0≤y2∧y2≤(((g.dlen (t.d_S w1)):Nat):Int)))<|
     gd (((g.nat 0)+(g.nsub (g.nat y2) (g.nat 0))≤w1.length))<|
     gd (((l17.length+(List.take (g.nsub (g.nat y2) (g.nat 0)) (List.drop (g.nat 0) w1)).length)*16≤70368744177664))<|
     lP (l17++(List.take (g.nsub (g.nat y2) (g.nat 0)) (List.drop (g.nat 0) w1))) fun(l18:List ByteArray)=>
     lP ([x1.From]) fun(l19:List ByteArray)=>
     gd (((l18.length+l19.length)*16≤70368744177664))<|
     lP (l18++l19) fun(l20:List ByteArray)=>
     gd (((0:Int)≤y2∧y2≤(g.int (g.dlen (t.d_S w1)))∧(g.int (g.dlen (t.d_S w1)))≤(((g.dlen (t.d_S w1)):Nat):Int)))<|
     gd (((g.nat y2)+(g.nsub (g.nat (g.int (g.dlen (t.d_S w1)))) (g.nat y2))≤w1.length))<|
     gd (((l20.length+(List.take (g.nsub (g.nat (g.int (g.dlen (t.d_S w1)))) (g.nat y2)) (List.drop (g.nat y2) w1)).length)*16≤70368744177664))<|
     lP (l20++(List.take (g.nsub (g.nat (g.int (g.dlen (t.d_S w1)))) (g.nat y2)) (List.drop (g.nat y2) w1))) fun(l21:List ByteArray)=>
     ar g t a0 n1 (g.wrap .i64 (g.add v1 1)) l21)))
def dn (g:G) (t:TE) (a0:Network):Option (List ByteArray):=
 lP ([]) fun(l1:List ByteArray)=>
 gd (((g.wrap .i64 (g.mul 2 (g.llen (t.r_Leg a0.Legs))))≤9223372036854775807))<|
 cl (ar g t a0 (a9 0 (g.wrap .i64 (g.mul 2 (g.llen (t.r_Leg a0.Legs))))) 0 l1) fun y3=>
 some y3
theorem ir {g:G} {t:TE} {a0:Network} {r:List ByteArray} (hg:g=G.real) (ht:t=TE.real) (h:dn g t a0=some r):Fn Tryz.prog 16 [.g (Network.rs t a0)] (.c (.o 1 (t.d_S r))):=by
 obtain⟨X,hX⟩:=bg (.c (.o 1 (t.d_S r)):X);rw[←hX];refine aD (rvs:=rv16) (j:=ir16) Tryz.func16 rfl (by kernel_rfl) (nb rfl) (by kernel_rfl) ae ?_;intro g2 F hg2 hF;obtain rfl:g2=g:=hg2.unique.trans hg.symm;clear hg2;obtain⟨wrap,lt,_,eq,_,rem,_,_,_,_,_,_,int,add,_,mul,_,seq,slt,_,_,llen,_,_,dlen⟩:=g2;obtain⟨_,_,r_Leg,_,r_I64,_,_,d_S⟩:=t;obtain⟨a0_Legs,a0_Off,a0_Change⟩:=a0
 unfold dn at h;try dsimp only at h
 cbv;obtain⟨l1,hl1,h⟩:=am h;try dsimp only at h
 refine ANew.mk (d_S l1) (dlen (d_S l1)) (by rw[←hl1];exact eF hg ht []) (by rw[←hl1];exact dk hg ht []) ?_;cbv;obtain⟨hB1,h⟩:=ah h;obtain⟨o1,ho1,h⟩:=ai h;try dsimp only at h
 try rw[hg] at ho1
 try rw[ht] at ho1
 refine ABL.mk {p:Nat×Int×List ByteArray//p.1=a9 p.2.1 (wrap .i64 (mul 2 (llen (r_Leg a0_Legs))))∧0≤p.2.1∧ar G.real TE.real (Network.mk a0_Legs a0_Off a0_Change) p.1 p.2.1 p.2.2=some o1} (fun⟨⟨n1,v1,w1⟩,_⟩=>({sl:=[(1,.c (.p 0 3 0 0)),(3,.c (.f 1 1 0 (dlen (d_S w1)))),(4,.c (.r (.v (.int .i64 v1))))],tab:=[(0,some (.foc 3 [] [.r (.s 6 (r_Leg a0_Legs)),.r (.s 1 (r_I64 a0_Off)),.r (.v (.int .i64 a0_Change))] [])),(1,some (.arr 1 (d_S w1)))]}:St)) 2 (fun p=>p.1.1) ⟨(a9 0 (wrap .i64 (mul 2 (llen (r_Leg a0_Legs)))),0,l1),rfl,Int.le_refl _,ho1⟩ (List ByteArray) (fun y3=>({sl:=[(3,.c (.f 0 1 0 (dlen (d_S y3))))],tab:=[(0,some (.arr 1 (d_S y3)))]}:St)) 1 (fun y=>o1=y) ?_ ?_ ?_
 ·refine Wk.of [(0,some 0),(1,some 32)] rfl rfl ?_ ?_
  ·cbv;all_goals exact⟨⟨_,rfl,rfl⟩,⟨_,rfl,rfl⟩,⟨_,rfl,rfl⟩,trivial⟩
  cbv;all_goals exact⟨⟨_,rfl,_,rfl,rfl,rfl,rfl,trivial⟩,⟨_,rfl,rfl⟩,trivial⟩
 ·rintro⟨⟨n1,v1,w1⟩,hn1,hi1,h_1⟩ hq1;try dsimp only at hn1 hi1 h_1
  clear hq1;cbv;rcases n1 with _|n1
  ·have hb1:lt v1 (wrap .i64 (mul 2 (llen (r_Leg a0_Legs))))=false:=dT hg hn1;rw[ar] at h_1;try rw[←hg] at h_1
   try rw[←ht] at h_1
   try dsimp only at h_1
   rw[hb1];cbv;refine⟨w1,Wk.of [(0,some 1)] rfl rfl ?_ ?_,(Option.some.inj h_1).symm⟩
   ·cbv;all_goals exact⟨⟨_,rfl,rfl⟩,trivial⟩
   cbv;all_goals exact⟨⟨_,rfl,rfl⟩,trivial⟩
  have hb1:lt v1 (wrap .i64 (mul 2 (llen (r_Leg a0_Legs))))=true:=eG hg hn1;have hl1:=iI hn1;have hs1:=gg hg hn1 hi1 hB1 (by decide);rw[ar] at h_1;try rw[←hg] at h_1
  try rw[←ht] at h_1
  try dsimp only at h_1
  rw[hb1];cbv;refine AStep.mk (by decide) ?_;cbv;obtain⟨hc1,h_1⟩:=ah h_1;refine AStep.mk hc1 ?_;cbv;obtain⟨x1,hx1,h_1⟩:=dc h_1;obtain⟨x1_From,x1_To,x1_Start,x1_Takes,x1_Days,x1_Room⟩:=x1;try dsimp only at h_1
  refine AGet.mk _ (cg hg ht hx1) ?_;cbv;refine AStep.mk (by decide) ?_;cbv
  cases hb2:(eq (rem v1 2) 1)
  ·rw[aa hb2] at h_1;cbv;obtain⟨hB3,h_1⟩:=ah h_1;obtain⟨o3,ho3,h_1⟩:=ai h_1;try dsimp only at h_1
   try rw[hg] at ho3
   try rw[ht] at ho3
   refine ABL.mk {p:Nat×Int//p.1=a9 p.2 (int (dlen (d_S w1)))∧0≤p.2∧bc G.real TE.real w1 (Leg.mk x1_From x1_To x1_Start x1_Takes x1_Days x1_Room) p.1 p.2=some o3} (fun⟨⟨n3,v3⟩,_⟩=>({sl:=[(1,.c (.p 0 3 0 0)),(3,.c (.f 1 1 0 (dlen (d_S w1)))),(4,.c (.r (.v (.int .i64 v1)))),(5,.c (.r (.v (.string x1_From)))),(6,.c (.r (.v (.int .i64 v3))))],tab:=[(0,some (.foc 3 [] [.r (.s 6 (r_Leg a0_Legs)),.r (.s 1 (r_I64 a0_Off)),.r (.v (.int .i64 a0_Change))] [])),(1,some (.arr 1 (d_S w1)))]}:St)) 2 (fun p=>p.1.1) ⟨(a9 0 (int (dlen (d_S w1))),0),rfl,Int.le_refl _,ho3⟩ (Int) (fun y2=>({sl:=[(1,.c (.p 0 3 0 0)),(3,.c (.f 1 1 0 (dlen (d_S w1)))),(4,.c (.r (.v (.int .i64 v1)))),(5,.c (.r (.v (.string x1_From)))),(6,.c (.r (.v (.int .i64 y2))))],tab:=[(0,some (.foc 3 [] [.r (.s 6 (r_Leg a0_Legs)),.r (.s 1 (r_I64 a0_Off)),.r (.v (.int .i64 a0_Change))] [])),(1,some (.arr 1 (d_S w1)))]}:St)) 2 (fun y=>o3=y) ?_ ?_ ?_
   ·refine Wk.of [(0,some 0),(1,some 1)] rfl rfl ?_ ?_
    ·cbv;all_goals exact⟨⟨_,rfl,rfl⟩,⟨_,rfl,rfl⟩,⟨_,rfl,rfl⟩,⟨_,rfl,rfl⟩,⟨_,rfl,rfl⟩,trivial⟩
    cbv;all_goals exact⟨⟨_,rfl,_,rfl,rfl,rfl,rfl,trivial⟩,⟨_,rfl,rfl⟩,trivial⟩
   ·rintro⟨⟨n3,v3⟩,hn3,hi3,h_3⟩ hq3;try dsimp only at hn3 hi3 h_3
    clear hq3;cbv;rcases n3 with _|n3
    ·have hb7:lt v3 (int (dlen (d_S w1)))=false:=dT hg hn3;rw[bc] at h_3;try rw[←hg] at h_3
     try rw[←ht] at h_3
     try dsimp only at h_3
     rw[hb7];cbv;iterate 6 try(rw[hb7];cbv)
     refine⟨v3,Wk.of [(0,some 0),(1,some 1)] rfl rfl ?_ ?_,(Option.some.inj h_3).symm⟩
     ·cbv;all_goals exact⟨⟨_,rfl,rfl⟩,⟨_,rfl,rfl⟩,⟨_,rfl,rfl⟩,⟨_,rfl,rfl⟩,⟨_,rfl,rfl⟩,trivial⟩
     cbv;all_goals exact⟨⟨_,rfl,_,rfl,rfl,rfl,rfl,trivial⟩,⟨_,rfl,rfl⟩,trivial⟩
    have hb7:lt v3 (int (dlen (d_S w1)))=true:=eG hg hn3;have hl3:=iI hn3;have hs3:=gg hg hn3 hi3 hB3 (by decide);rw[bc] at h_3;try rw[←hg] at h_3
    try rw[←ht] at h_3
    try dsimp only at h_3
    rw[hb7];cbv;iterate 2 try(rw[hb7];cbv)
    refine AStep.mk (pB hg hi3 hl3) ?_;cbv;try(rw[hb7];cbv)
    obtain⟨x4,hx4,h_3⟩:=dc h_3;try dsimp only at h_3
    refine AGet.mk _ (f8 hg ht hx4) ?_;cbv;iterate 3 try(rw[hb7];cbv)
    cases hb8:(slt x4 x1_From)
    ·rw[aa hb8] at h_3;cbv;refine⟨v3,Wk.of [(0,some 0),(1,some 1)] rfl rfl ?_ ?_,(Option.some.inj h_3).symm⟩
     ·cbv;all_goals exact⟨⟨_,rfl,rfl⟩,⟨_,rfl,rfl⟩,⟨_,rfl,rfl⟩,⟨_,rfl,rfl⟩,⟨_,rfl,rfl⟩,trivial⟩
     cbv;all_goals exact⟨⟨_,rfl,_,rfl,rfl,rfl,rfl,trivial⟩,⟨_,rfl,rfl⟩,trivial⟩
    rw[ab hb8] at h_3;cbv;try rw[hg] at h_3
    try rw[ht] at h_3
    refine⟨⟨(n3,(wrap .i64 (add v3 1))),hs3.1,hs3.2,h_3⟩,Wk.of [(0,some 0),(1,some 1)] rfl rfl ?_ ?_,Nat.lt_succ_self _⟩
    ·cbv;all_goals exact⟨⟨_,rfl,rfl⟩,⟨_,rfl,rfl⟩,⟨_,rfl,rfl⟩,⟨_,rfl,rfl⟩,⟨_,rfl,rfl⟩,trivial⟩
    cbv;all_goals exact⟨⟨_,rfl,_,rfl,rfl,rfl,rfl,trivial⟩,⟨_,rfl,rfl⟩,trivial⟩
   rintro y2 hy3;replace hy3:=hy3.symm;subst hy3;try dsimp only[lr,lrL,lrp,bQ] at h_1
   cbv
   cases hb9:(eq y2 (int (dlen (d_S w1))))
   rotate_left
   ·rw[ab hb9] at h_1;cbv;iterate 6 try(rw[hb9];cbv)
    obtain⟨l12,hl12,h_1⟩:=am h_1;try dsimp only at h_1
    refine ANew.mk (d_S l12) (dlen (d_S l12)) (by rw[←hl12];exact eF hg ht []) (by rw[←hl12];exact dk hg ht []) ?_;cbv;obtain⟨hc18,h_1⟩:=ah h_1;refine AStep.mk hc18 ?_;cbv;obtain⟨hc23,h_1⟩:=ah h_1;obtain⟨hc24,h_1⟩:=ah h_1;refine AStep.mk ⟨(cP hg ht hc23),(bK hg ht (an hg ht _) (bk hg ht _ _ _) hc24)⟩ ?_;cbv;obtain⟨l13,hl13,h_1⟩:=am h_1;try dsimp only at h_1
    refine ANew.mk (d_S l13) (dlen (d_S l13)) (by rw[←hl13];exact eE hg ht (an hg ht _) (bk hg ht _ _ _)) (by rw[←hl13];exact de hg ht (an hg ht _) (bk hg ht _ _ _)) ?_;cbv;obtain⟨l14,hl14,h_1⟩:=am h_1;try dsimp only at h_1
    refine ANew.mk (d_S l14) (dlen (d_S l14)) (by rw[←hl14];exact eF hg ht [x1_From]) (by rw[←hl14];exact dk hg ht [x1_From]) ?_;cbv;obtain⟨hc22,h_1⟩:=ah h_1;refine AStep.mk ⟨⟨rfl,(an hg ht _)⟩,(bK hg ht (an hg ht _) rfl hc22)⟩ ?_;cbv;obtain⟨l15,hl15,h_1⟩:=am h_1;try dsimp only at h_1
    refine ANew.mk (d_S l15) (dlen (d_S l15)) (by rw[←hl15];exact eE hg ht (an hg ht _) rfl) (by rw[←hl15];exact de hg ht (an hg ht _) rfl) ?_;cbv;obtain⟨hc19,h_1⟩:=ah h_1;refine AStep.mk hc19 ?_;cbv;obtain⟨hc20,h_1⟩:=ah h_1;obtain⟨hc21,h_1⟩:=ah h_1;refine AStep.mk ⟨(cP hg ht hc20),(bK hg ht (an hg ht _) (bk hg ht _ _ _) hc21)⟩ ?_;cbv;obtain⟨l16,hl16,h_1⟩:=am h_1;try dsimp only at h_1
    refine ANew.mk (d_S l16) (dlen (d_S l16)) (by rw[←hl16];exact eE hg ht (an hg ht _) (bk hg ht _ _ _)) (by rw[←hl16];exact de hg ht (an hg ht _) (bk hg ht _ _ _)) ?_;cbv;try rw[hg] at h_1
    try rw[ht] at h_1
    refine⟨⟨(n1,(wrap .i64 (add v1 1)),l16),hs1.1,hs1.2,h_1⟩,Wk.of [(0,some 0),(1,some 370)] rfl rfl ?_ ?_,Nat.lt_succ_self _⟩
    ·cbv;all_goals exact⟨⟨_,rfl,rfl⟩,⟨_,rfl,rfl⟩,⟨_,rfl,rfl⟩,trivial⟩
    cbv;all_goals exact⟨⟨_,rfl,_,rfl,rfl,rfl,rfl,trivial⟩,⟨_,rfl,rfl⟩,trivial⟩
   rw[aa hb9] at h_1;cbv;iterate 2 try(rw[hb9];cbv)
   obtain⟨hc25,h_1⟩:=ah h_1;refine AStep.mk hc25 ?_;cbv;try(rw[hb9];cbv)
   obtain⟨x5,hx5,h_1⟩:=dc h_1;try dsimp only at h_1
   refine AGet.mk _ (f8 hg ht hx5) ?_;cbv;iterate 3 try(rw[hb9];cbv)
   cases hb10:(seq x5 x1_From)
   rotate_left
   ·rw[ab hb10] at h_1;cbv;try rw[hg] at h_1
    try rw[ht] at h_1
    refine⟨⟨(n1,(wrap .i64 (add v1 1)),w1),hs1.1,hs1.2,h_1⟩,Wk.of [(0,some 0),(1,some 1)] rfl rfl ?_ ?_,Nat.lt_succ_self _⟩
    ·cbv;all_goals exact⟨⟨_,rfl,rfl⟩,⟨_,rfl,rfl⟩,⟨_,rfl,rfl⟩,trivial⟩
    cbv;all_goals exact⟨⟨_,rfl,_,rfl,rfl,rfl,rfl,trivial⟩,⟨_,rfl,rfl⟩,trivial⟩
   rw[aa hb10] at h_1;cbv;obtain⟨l17,hl17,h_1⟩:=am h_1;try dsimp only at h_1
   refine ANew.mk (d_S l17) (dlen (d_S l17)) (by rw[←hl17];exact eF hg ht []) (by rw[←hl17];exact dk hg ht []) ?_;cbv;obtain⟨hc26,h_1⟩:=ah h_1;refine AStep.mk hc26 ?_;cbv;obtain⟨hc31,h_1⟩:=ah h_1;obtain⟨hc32,h_1⟩:=ah h_1;refine AStep.mk ⟨(cP hg ht hc31),(bK hg ht (an hg ht _) (bk hg ht _ _ _) hc32)⟩ ?_;cbv;obtain⟨l18,hl18,h_1⟩:=am h_1;try dsimp only at h_1
   refine ANew.mk (d_S l18) (dlen (d_S l18)) (by rw[←hl18];exact eE hg ht (an hg ht _) (bk hg ht _ _ _)) (by rw[←hl18];exact de hg ht (an hg ht _) (bk hg ht _ _ _)) ?_;cbv;obtain⟨l19,hl19,h_1⟩:=am h_1;try dsimp only at h_1
   refine ANew.mk (d_S l19) (dlen (d_S l19)) (by rw[←hl19];exact eF hg ht [x1_From]) (by rw[←hl19];exact dk hg ht [x1_From]) ?_;cbv;obtain⟨hc30,h_1⟩:=ah h_1;refine AStep.mk ⟨⟨rfl,(an hg ht _)⟩,(bK hg ht (an hg ht _) rfl hc30)⟩ ?_;cbv;obtain⟨l20,hl20,h_1⟩:=am h_1;try dsimp only at h_1
   refine ANew.mk (d_S l20) (dlen (d_S l20)) (by rw[←hl20];exact eE hg ht (an hg ht _) rfl) (by rw[←hl20];exact de hg ht (an hg ht _) rfl) ?_;cbv;obtain⟨hc27,h_1⟩:=ah h_1;refine AStep.mk hc27 ?_;cbv;obtain⟨hc28,h_1⟩:=ah h_1;obtain⟨hc29,h_1⟩:=ah h_1;refine AStep.mk ⟨(cP hg ht hc28),(bK hg ht (an hg ht _) (bk hg ht _ _ _) hc29)⟩ ?_;cbv;obtain⟨l21,hl21,h_1⟩:=am h_1;try dsimp only at h_1
   refine ANew.mk (d_S l21) (dlen (d_S l21)) (by rw[←hl21];exact eE hg ht (an hg ht _) (bk hg ht _ _ _)) (by rw[←hl21];exact de hg ht (an hg ht _) (bk hg ht _ _ _)) ?_;cbv;try rw[hg] at h_1
   try rw[ht] at h_1
   refine⟨⟨(n1,(wrap .i64 (add v1 1)),l21),hs1.1,hs1.2,h_1⟩,Wk.of [(0,some 0),(1,some 370)] rfl rfl ?_ ?_,Nat.lt_succ_self _⟩
   ·cbv;all_goals exact⟨⟨_,rfl,rfl⟩,⟨_,rfl,rfl⟩,⟨_,rfl,rfl⟩,trivial⟩
   cbv;all_goals exact⟨⟨_,rfl,_,rfl,rfl,rfl,rfl,trivial⟩,⟨_,rfl,rfl⟩,trivial⟩
  rw[ab hb2] at h_1;cbv;refine AStep.mk (by decide) ?_;cbv;obtain⟨hc2,h_1⟩:=ah h_1;refine AStep.mk hc2 ?_;cbv;refine AGet.mk _ (cg hg ht hx1) ?_;cbv;obtain⟨hB2,h_1⟩:=ah h_1;obtain⟨o2,ho2,h_1⟩:=ai h_1;try dsimp only at h_1
  try rw[hg] at ho2
  try rw[ht] at ho2
  refine ABL.mk {p:Nat×Int//p.1=a9 p.2 (int (dlen (d_S w1)))∧0≤p.2∧bf G.real TE.real w1 (Leg.mk x1_From x1_To x1_Start x1_Takes x1_Days x1_Room) p.1 p.2=some o2} (fun⟨⟨n2,v2⟩,_⟩=>({sl:=[(1,.c (.p 0 3 0 0)),(3,.c (.f 1 1 0 (dlen (d_S w1)))),(4,.c (.r (.v (.int .i64 v1)))),(5,.c (.r (.v (.string x1_To)))),(6,.c (.r (.v (.int .i64 v2))))],tab:=[(0,some (.foc 3 [] [.r (.s 6 (r_Leg a0_Legs)),.r (.s 1 (r_I64 a0_Off)),.r (.v (.int .i64 a0_Change))] [])),(1,some (.arr 1 (d_S w1)))]}:St)) 2 (fun p=>p.1.1) ⟨(a9 0 (int (dlen (d_S w1))),0),rfl,Int.le_refl _,ho2⟩ (Int) (fun y1=>({sl:=[(1,.c (.p 0 3 0 0)),(3,.c (.f 1 1 0 (dlen (d_S w1)))),(4,.c (.r (.v (.int .i64 v1)))),(5,.c (.r (.v (.string x1_To)))),(6,.c (.r (.v (.int .i64 y1))))],tab:=[(0,some (.foc 3 [] [.r (.s 6 (r_Leg a0_Legs)),.r (.s 1 (r_I64 a0_Off)),.r (.v (.int .i64 a0_Change))] [])),(1,some (.arr 1 (d_S w1)))]}:St)) 2 (fun y=>o2=y) ?_ ?_ ?_
  ·refine Wk.of [(0,some 0),(1,some 1)] rfl rfl ?_ ?_
   ·cbv;all_goals exact⟨⟨_,rfl,rfl⟩,⟨_,rfl,rfl⟩,⟨_,rfl,rfl⟩,⟨_,rfl,rfl⟩,⟨_,rfl,rfl⟩,trivial⟩
   cbv;all_goals exact⟨⟨_,rfl,_,rfl,rfl,rfl,rfl,trivial⟩,⟨_,rfl,rfl⟩,trivial⟩
  ·rintro⟨⟨n2,v2⟩,hn2,hi2,h_2⟩ hq2;try dsimp only at hn2 hi2 h_2
   clear hq2;cbv;rcases n2 with _|n2
   ·have hb3:lt v2 (int (dlen (d_S w1)))=false:=dT hg hn2;rw[bf] at h_2;try rw[←hg] at h_2
    try rw[←ht] at h_2
    try dsimp only at h_2
    rw[hb3];cbv;iterate 6 try(rw[hb3];cbv)
    refine⟨v2,Wk.of [(0,some 0),(1,some 1)] rfl rfl ?_ ?_,(Option.some.inj h_2).symm⟩
    ·cbv;all_goals exact⟨⟨_,rfl,rfl⟩,⟨_,rfl,rfl⟩,⟨_,rfl,rfl⟩,⟨_,rfl,rfl⟩,⟨_,rfl,rfl⟩,trivial⟩
    cbv;all_goals exact⟨⟨_,rfl,_,rfl,rfl,rfl,rfl,trivial⟩,⟨_,rfl,rfl⟩,trivial⟩
   have hb3:lt v2 (int (dlen (d_S w1)))=true:=eG hg hn2;have hl2:=iI hn2;have hs2:=gg hg hn2 hi2 hB2 (by decide);rw[bf] at h_2;try rw[←hg] at h_2
   try rw[←ht] at h_2
   try dsimp only at h_2
   rw[hb3];cbv;iterate 2 try(rw[hb3];cbv)
   refine AStep.mk (pB hg hi2 hl2) ?_;cbv;try(rw[hb3];cbv)
   obtain⟨x2,hx2,h_2⟩:=dc h_2;try dsimp only at h_2
   refine AGet.mk _ (f8 hg ht hx2) ?_;cbv;iterate 3 try(rw[hb3];cbv)
   cases hb4:(slt x2 x1_To)
   ·rw[aa hb4] at h_2;cbv;refine⟨v2,Wk.of [(0,some 0),(1,some 1)] rfl rfl ?_ ?_,(Option.some.inj h_2).symm⟩
    ·cbv;all_goals exact⟨⟨_,rfl,rfl⟩,⟨_,rfl,rfl⟩,⟨_,rfl,rfl⟩,⟨_,rfl,rfl⟩,⟨_,rfl,rfl⟩,trivial⟩
    cbv;all_goals exact⟨⟨_,rfl,_,rfl,rfl,rfl,rfl,trivial⟩,⟨_,rfl,rfl⟩,trivial⟩
   rw[ab hb4] at h_2;cbv;try rw[hg] at h_2
   try rw[ht] at h_2
   refine⟨⟨(n2,(wrap .i64 (add v2 1))),hs2.1,hs2.2,h_2⟩,Wk.of [(0,some 0),(1,some 1)] rfl rfl ?_ ?_,Nat.lt_succ_self _⟩
   ·cbv;all_goals exact⟨⟨_,rfl,rfl⟩,⟨_,rfl,rfl⟩,⟨_,rfl,rfl⟩,⟨_,rfl,rfl⟩,⟨_,rfl,rfl⟩,trivial⟩
   cbv;all_goals exact⟨⟨_,rfl,_,rfl,rfl,rfl,rfl,trivial⟩,⟨_,rfl,rfl⟩,trivial⟩
  rintro y1 hy2;replace hy2:=hy2.symm;subst hy2;try dsimp only[lr,lrL,lrp,bQ] at h_1
  cbv
  cases hb5:(eq y1 (int (dlen (d_S w1))))
  rotate_left
  ·rw[ab hb5] at h_1;cbv;iterate 6 try(rw[hb5];cbv)
   obtain⟨l2,hl2,h_1⟩:=am h_1;try dsimp only at h_1
   refine ANew.mk (d_S l2) (dlen (d_S l2)) (by rw[←hl2];exact eF hg ht []) (by rw[←hl2];exact dk hg ht []) ?_;cbv;obtain⟨hc3,h_1⟩:=ah h_1;refine AStep.mk hc3 ?_;cbv;obtain⟨hc8,h_1⟩:=ah h_1;obtain⟨hc9,h_1⟩:=ah h_1;refine AStep.mk ⟨(cP hg ht hc8),(bK hg ht (an hg ht _) (bk hg ht _ _ _) hc9)⟩ ?_;cbv;obtain⟨l3,hl3,h_1⟩:=am h_1;try dsimp only at h_1
   refine ANew.mk (d_S l3) (dlen (d_S l3)) (by rw[←hl3];exact eE hg ht (an hg ht _) (bk hg ht _ _ _)) (by rw[←hl3];exact de hg ht (an hg ht _) (bk hg ht _ _ _)) ?_;cbv;obtain⟨l4,hl4,h_1⟩:=am h_1;try dsimp only at h_1
   refine ANew.mk (d_S l4) (dlen (d_S l4)) (by rw[←hl4];exact eF hg ht [x1_To]) (by rw[←hl4];exact dk hg ht [x1_To]) ?_;cbv;obtain⟨hc7,h_1⟩:=ah h_1;refine AStep.mk ⟨⟨rfl,(an hg ht _)⟩,(bK hg ht (an hg ht _) rfl hc7)⟩ ?_;cbv;obtain⟨l5,hl5,h_1⟩:=am h_1;try dsimp only at h_1
   refine ANew.mk (d_S l5) (dlen (d_S l5)) (by rw[←hl5];exact eE hg ht (an hg ht _) rfl) (by rw[←hl5];exact de hg ht (an hg ht _) rfl) ?_;cbv;obtain⟨hc4,h_1⟩:=ah h_1;refine AStep.mk hc4 ?_;cbv;obtain⟨hc5,h_1⟩:=ah h_1;obtain⟨hc6,h_1⟩:=ah h_1;refine AStep.mk ⟨(cP hg ht hc5),(bK hg ht (an hg ht _) (bk hg ht _ _ _) hc6)⟩ ?_;cbv;obtain⟨l6,hl6,h_1⟩:=am h_1;try dsimp only at h_1
   refine ANew.mk (d_S l6) (dlen (d_S l6)) (by rw[←hl6];exact eE hg ht (an hg ht _) (bk hg ht _ _ _)) (by rw[←hl6];exact de hg ht (an hg ht _) (bk hg ht _ _ _)) ?_;cbv;try rw[hg] at h_1
   try rw[ht] at h_1
   refine⟨⟨(n1,(wrap .i64 (add v1 1)),l6),hs1.1,hs1.2,h_1⟩,Wk.of [(0,some 0),(1,some 370)] rfl rfl ?_ ?_,Nat.lt_succ_self _⟩
   ·cbv;all_goals exact⟨⟨_,rfl,rfl⟩,⟨_,rfl,rfl⟩,⟨_,rfl,rfl⟩,trivial⟩
   cbv;all_goals exact⟨⟨_,rfl,_,rfl,rfl,rfl,rfl,trivial⟩,⟨_,rfl,rfl⟩,trivial⟩
  rw[aa hb5] at h_1;cbv;iterate 2 try(rw[hb5];cbv)
  obtain⟨hc10,h_1⟩:=ah h_1;refine AStep.mk hc10 ?_;cbv;try(rw[hb5];cbv)
  obtain⟨x3,hx3,h_1⟩:=dc h_1;try dsimp only at h_1
  refine AGet.mk _ (f8 hg ht hx3) ?_;cbv;iterate 3 try(rw[hb5];cbv)
  cases hb6:(seq x3 x1_To)
  rotate_left
  ·rw[ab hb6] at h_1;cbv;try rw[hg] at h_1
   try rw[ht] at h_1
   refine⟨⟨(n1,(wrap .i64 (add v1 1)),w1),hs1.1,hs1.2,h_1⟩,Wk.of [(0,some 0),(1,some 1)] rfl rfl ?_ ?_,Nat.lt_succ_self _⟩
   ·cbv;all_goals exact⟨⟨_,rfl,rfl⟩,⟨_,rfl,rfl⟩,⟨_,rfl,rfl⟩,trivial⟩
   cbv;all_goals exact⟨⟨_,rfl,_,rfl,rfl,rfl,rfl,trivial⟩,⟨_,rfl,rfl⟩,trivial⟩
  rw[aa hb6] at h_1;cbv;obtain⟨l7,hl7,h_1⟩:=am h_1;try dsimp only at h_1
  refine ANew.mk (d_S l7) (dlen (d_S l7)) (by rw[←hl7];exact eF hg ht []) (by rw[←hl7];exact dk hg ht []) ?_;cbv;obtain⟨hc11,h_1⟩:=ah h_1;refine AStep.mk hc11 ?_;cbv;obtain⟨hc16,h_1⟩:=ah h_1;obtain⟨hc17,h_1⟩:=ah h_1;refine AStep.mk ⟨(cP hg ht hc16),(bK hg ht (an hg ht _) (bk hg ht _ _ _) hc17)⟩ ?_;cbv;obtain⟨l8,hl8,h_1⟩:=am h_1;try dsimp only at h_1
  refine ANew.mk (d_S l8) (dlen (d_S l8)) (by rw[←hl8];exact eE hg ht (an hg ht _) (bk hg ht _ _ _)) (by rw[←hl8];exact de hg ht (an hg ht _) (bk hg ht _ _ _)) ?_;cbv;obtain⟨l9,hl9,h_1⟩:=am h_1;try dsimp only at h_1
  refine ANew.mk (d_S l9) (dlen (d_S l9)) (by rw[←hl9];exact eF hg ht [x1_To]) (by rw[←hl9];exact dk hg ht [x1_To]) ?_;cbv;obtain⟨hc15,h_1⟩:=ah h_1;refine AStep.mk ⟨⟨rfl,(an hg ht _)⟩,(bK hg ht (an hg ht _) rfl hc15)⟩ ?_;cbv;obtain⟨l10,hl10,h_1⟩:=am h_1;try dsimp only at h_1
  refine ANew.mk (d_S l10) (dlen (d_S l10)) (by rw[←hl10];exact eE hg ht (an hg ht _) rfl) (by rw[←hl10];exact de hg ht (an hg ht _) rfl) ?_;cbv;obtain⟨hc12,h_1⟩:=ah h_1;refine AStep.mk hc12 ?_;cbv;obtain⟨hc13,h_1⟩:=ah h_1;obtain⟨hc14,h_1⟩:=ah h_1;refine AStep.mk ⟨(cP hg ht hc13),(bK hg ht (an hg ht _) (bk hg ht _ _ _) hc14)⟩ ?_;cbv;obtain⟨l11,hl11,h_1⟩:=am h_1;try dsimp only at h_1
  refine ANew.mk (d_S l11) (dlen (d_S l11)) (by rw[←hl11];exact eE hg ht (an hg ht _) (bk hg ht _ _ _)) (by rw[←hl11];exact de hg ht (an hg ht _) (bk hg ht _ _ _)) ?_;cbv;try rw[hg] at h_1
  try rw[ht] at h_1
  refine⟨⟨(n1,(wrap .i64 (add v1 1)),l11),hs1.1,hs1.2,h_1⟩,Wk.of [(0,some 0),(1,some 370)] rfl rfl ?_ ?_,Nat.lt_succ_self _⟩
  ·cbv;all_goals exact⟨⟨_,rfl,rfl⟩,⟨_,rfl,rfl⟩,⟨_,rfl,rfl⟩,trivial⟩
  cbv;all_goals exact⟨⟨_,rfl,_,rfl,rfl,rfl,rfl,trivial⟩,⟨_,rfl,rfl⟩,trivial⟩
 rintro y3 hy1;replace hy1:=hy1.symm;subst hy1;try dsimp only[lr,lrL,lrp,bQ] at h
 cbv;obtain rfl:=Option.some.inj h;exact ARet.mk ⟨rfl,(an hg ht _)⟩ hX.symm
end Go.Vs
