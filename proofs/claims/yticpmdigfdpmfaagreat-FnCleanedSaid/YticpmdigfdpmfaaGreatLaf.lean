/- Part of the proofs of this seat's laws: Laf. No condition. -/
import Derived.Test.YticpmdigfdpmfaaGreatTy
import Derived.Test.YticpmdigfdpmfaaGreatTIRall
import Derived.Test.YticpmdigfdpmfaaGreatLaa
import Derived.Test.YticpmdigfdpmfaaGreatLab
import Derived.Test.YticpmdigfdpmfaaGreatLad
import Derived.Test.YticpmdigfdpmfaaGreatLae
set_option linter.unusedVariables false
set_option linter.unusedSimpArgs false
set_option linter.unusedSectionVars false
namespace Go.Vs
set_option maxRecDepth 100000
def ir9:J:=js [jm 2 kf] [0] (.seq (js [jm 8 0,jc 9 11 [8]] [0,9] (.cond 9 (js [jm 2 kt] [2] .ret) .skip)) (js [jm 11 0,jq 12 (.call 46 false [11]),jm 10 12,jq 13 (.ext 0 10),jq 14 (.ext 1 10),jq 15 (.ext 2 10),jq 3 (.alloc [.n 6,.n 1,.r (.v (.int .i64 0))]),jp (.st 3 3 13),jm 4 14,jm 5 15] [3,4,5] (js [jl 16 3 3,jm 17 4,jm 18 5,jq 19 (.call 21 false [16,17,18]),jm 6 19] [3,4,5,6] (.seq (js [jm 20 6,jq 21 (.len false 20),jl 22 3 3,jm 23 4,jm 24 5,jq 25 (.call 47 false [22,23,24]),jq 26 (.len false 25),jb 27 .neq .i 21 26] [3,4,5,6,27] (.cond 27 (js [jm 2 kf] [2] .ret) .skip)) (.seq (js [jl 28 3 3,jm 29 6,jm 30 5,jq 31 (.call 19 false [28,29,30]),jq 32 (.len false 31),jb 33 .gtr .i 32 (ki 0),jm 34 33,jv 35 34 (.ld true 3 3),jv 36 34 (.mv 6),jv 37 34 (.mv 5),jv 38 34 (.call 21 false [35,36,37]),jv 39 34 (.mv 6),jv 40 34 (.call 20 true [38,39]),jv 41 34 (.not 40),jq 42 (.pick 34 kt 41)] [3,4,5,6,42] (.cond 42 (js [jm 2 kf] [2] .ret) .skip)) (.seq (js [jm 7 (ki 1)] [3,4,5,6,7] (.bl 0 (.seq (js [jm 43 7,jm 44 6,jq 45 (.len false 44),jb 46 .lss .i 43 45] [3,4,5,6,7,46] (.cond 46 .skip (.exit 0))) (.seq (.block 1 (.seq (.reg (some [[],[],[],[2],[1,2,3],[1,2,3,4],[],[],[6,7],[6,7,8],[0,1,2,3,4,5,6,7,8,9],[0,1,2,3,4,5,6,7,8,9,10]]) [jl 49 3 3,jm 50 6,jm 51 7,jb 52 .sub .i 51 (ki 1),ja 53 6 50 52,jl 54 6 53,jm 55 6,jm 56 7,ja 57 6 55 56,jl 58 6 57,jc 59 48 [49,54,58],jq 60 (.not 59)] [3,4,5,6,7,60]) (.cond 60 (js [jm 2 kf] [2] .ret) .skip))) (.reg none [jm 47 7,jb 48 .add .i 47 (ki 1),jm 7 48] [3,4,5,6,7]))))) (js [jm 61 6,jq 62 (.len false 61),jb 63 .eql .i 62 (ki 0),jl 64 3 3,jm 65 4,jm 66 5,jq 67 (.call 18 false [64,65,66]),jq 68 (.len false 67),jb 69 .eql .i 68 (ki 0),jb 70 .eql .b 63 69,jm 2 70] [2] .ret)))))))
def rv9:List RV:=[.t 2]
open Go.Proofs Go.IntWalk
set_option linter.unusedVariables false
set_option maxHeartbeats 4000000
def bv (g:G) (t:TE) (x2:Network×(List Scan)×Int) (x3:List Scan):Nat→Int→Option (LR Bool Unit)
 |0,v1=>
  some (LR.out ())
 |n1+1,v1=>
  gd (((0:Int)≤(g.wrap .i64 (g.sub v1 1))))<|
  gt x3 (g.nat (g.wrap .i64 (g.sub v1 1))) fun x8=>
  gt x3 (g.nat v1) fun x9=>
  cl (dJ g t (Network.mk x2.1.Legs x2.1.Off x2.1.Change) (Scan.mk x8.Thing x8.At x8.Kind x8.Place (Trip.mk x8.Trip.Leg x8.Trip.Day)) (Scan.mk x9.Thing x9.At x9.Kind x9.Place (Trip.mk x9.Trip.Leg x9.Trip.Day))) fun x10=>
  br x10
  (
   bv g t x2 x3 n1 (g.wrap .i64 (g.add v1 1)))
  (
   some (LR.ret false))
def ip (g:G) (t:TE) (a0:List Int):Option Bool:=
 lP (pw g t a0) fun x1=>
 br x1
 (
  some true)
 (
  cl (fy g t a0) fun x2=>
  cl (dk g t (Network.mk x2.1.Legs x2.1.Off x2.1.Change) x2.2.1 x2.2.2) fun x3=>
  cl (gF g t (Network.mk x2.1.Legs x2.1.Off x2.1.Change) x2.2.1 x2.2.2) fun x4=>
  br (g.eq (g.llen (t.r_Scan x3)) (g.llen (t.r_Scan x4)))
  (
   cl (gb g t (Network.mk x2.1.Legs x2.1.Off x2.1.Change) x3 x2.2.2) fun x5=>
   br (g.lt 0 (g.llen (t.r_I64 x5)))
   (
    some false)
   (
    cl (dk g t (Network.mk x2.1.Legs x2.1.Off x2.1.Change) x3 x2.2.2) fun x6=>
    cl (iJ g t x6 x3) fun x7=>
    br x7
    (
     gd (((g.llen (t.r_Scan x3))≤9223372036854775807))<|
     cl (bv g t x2 x3 (ap 1 (g.llen (t.r_Scan x3))) 1) fun o1=>lr o1 fun y1=>
     cl (d7 g t (Network.mk x2.1.Legs x2.1.Off x2.1.Change) x2.2.1 x2.2.2) fun x11=>
     br (g.eq (g.llen (t.r_Scan x3)) 0)
     (
      br (g.eq (g.llen (t.r_Scan x11)) 0)
      (
       some true)
      (
       some false))
     (
      br (g.eq (g.llen (t.r_Scan x11)) 0)
      (
       some false)
      (
       some true)))
    (
     some false)))
  (
   some false))
theorem s8 {g:G} {t:TE} {a0:List Int} {r:Bool} (hg:g=G.real) (ht:t=TE.real) (h:ip g t a0=some r):Fn Tryz.prog 9 [.c (.s 1 (t.r_U8 a0))] (.c (.r (.v (.bool r)))):=by
 obtain⟨X,hX⟩:=aC (.c (.r (.v (.bool r))):X);rw[←hX];refine aA (rvs:=rv9) (j:=ir9) Tryz.func9 rfl (by kernel_rfl) (nb rfl) (by kernel_rfl) af ?_;intro g2 F hg2 hF;obtain rfl:g2=g:=hg2.unique.trans hg.symm;clear hg2;obtain⟨wrap,lt,_,eq,_,_,_,_,_,_,_,_,_,add,_,_,_,_,_,_,_,llen,_,_,_,_,_,_,_,rda⟩:=g2;obtain⟨_,_,r_Scan,d_Scan,r_Leg,d_Leg,r_I64,d_I64⟩:=t
 have hrda_Scan:∀l,rda (d_Scan l)=r_Scan l:=lf hg ht;have hrda_Leg:∀l,rda (d_Leg l)=r_Leg l:=oA hg ht;have hrda_I64:∀l,rda (d_I64 l)=r_I64 l:=mc hg ht;unfold ip at h;try dsimp only at h
 cbv;obtain⟨x1,hx1,h⟩:=ah h;try dsimp only at h
 refine ACall.mk _ _ rfl (hF _ _ _ (uM hg ht hx1)) (.inl rfl) (nb rfl) ?_;cbv
 cases hb1:x1
 rotate_left
 ·rw[ab hb1] at h;cbv;obtain rfl:=Option.some.inj h;exact ARet.mk trivial hX.symm
 rw[aa hb1] at h;cbv;obtain⟨x2,hx2,h⟩:=ae h;obtain⟨⟨x2_1_Legs,x2_1_Off,x2_1_Change⟩,x2_2_1,x2_2_2⟩:=x2;try dsimp only at h
 refine ACallR.mk _ _ (.u [.g [.r (.s 6 (r_Leg x2_1_Legs)),.r (.s 1 (r_I64 x2_1_Off)),.r (.v (.int .i64 x2_1_Change))],.c (.r (.s 6 (r_Scan x2_2_1))),.c (.r (.v (.int .i64 x2_2_2)))]) rfl (hF _ _ _ (qj hg ht hx2)) (.inl rfl) (nb rfl) (by cbv;(try simp only[hrda_I64,hrda_Leg,hrda_Scan])) ?_;cbv;obtain⟨x3,hx3,h⟩:=ae h;try dsimp only at h
 refine ACallR.mk _ _ (.c (.r (.s 6 (r_Scan x3)))) rfl (hF _ _ _ (ik hg ht hx3)) (.inl rfl) (nb rfl) (by cbv;(try simp only[hrda_Scan])) ?_;cbv;obtain⟨x4,hx4,h⟩:=ae h;try dsimp only at h
 refine ACallR.mk _ _ (.c (.r (.s 6 (r_Scan x4)))) rfl (hF _ _ _ (pH hg ht hx4)) (.inl rfl) (nb rfl) (by cbv;(try simp only[hrda_Scan])) ?_;cbv
 cases hb2:(eq (llen (r_Scan x3)) (llen (r_Scan x4)))
 ·rw[aa hb2] at h;cbv;obtain rfl:=Option.some.inj h;exact ARet.mk trivial hX.symm
 rw[ab hb2] at h;cbv;obtain⟨x5,hx5,h⟩:=ae h;try dsimp only at h
 refine ACallR.mk _ _ (.c (.r (.s 1 (r_I64 x5)))) rfl (hF _ _ _ (lU hg ht hx5)) (.inl rfl) (nb rfl) (by cbv;(try simp only[hrda_I64])) ?_;cbv
 cases hb3:(lt 0 (llen (r_I64 x5)))
 rotate_left
 ·rw[ab hb3] at h;cbv;iterate 7 try(rw[hb3];cbv)
  obtain rfl:=Option.some.inj h;exact ARet.mk trivial hX.symm
 rw[aa hb3] at h;cbv;iterate 3 try(rw[hb3];cbv)
 obtain⟨x6,hx6,h⟩:=ae h;try dsimp only at h
 refine ACallR.mk _ _ (.c (.r (.s 6 (r_Scan x6)))) rfl (hF _ _ _ (ik hg ht hx6)) (.inl rfl) (nb rfl) (by cbv;(try simp only[hrda_Scan])) ?_;cbv;iterate 2 try(rw[hb3];cbv)
 obtain⟨x7,hx7,h⟩:=ae h;try dsimp only at h
 refine ACall.mk _ _ rfl (hF _ _ _ (mh hg ht hx7)) (.inl rfl) (nb rfl) ?_;cbv;iterate 2 try(rw[hb3];cbv)
 cases hb4:x7
 ·rw[aa hb4] at h;cbv;obtain rfl:=Option.some.inj h;exact ARet.mk trivial hX.symm
 rw[ab hb4] at h;cbv;obtain⟨hB1,h⟩:=ak h;obtain⟨o1,ho1,h⟩:=ae h;try dsimp only at h
 try rw[hg] at ho1
 try rw[ht] at ho1
 refine ABL.mk {p:Nat×Int//p.1=ap p.2 (llen (r_Scan x3))∧1≤p.2∧bv G.real TE.real ((Network.mk x2_1_Legs x2_1_Off x2_1_Change),x2_2_1,x2_2_2) x3 p.1 p.2=some o1} (fun⟨⟨n1,v1⟩,_⟩=>({sl:=[(3,.c (.p 0 3 0 0)),(4,.c (.r (.s 6 (r_Scan x2_2_1)))),(5,.c (.r (.v (.int .i64 x2_2_2)))),(6,.c (.r (.s 6 (r_Scan x3)))),(7,.c (.r (.v (.int .i64 v1))))],tab:=[(0,some (.foc 3 [] [.r (.s 6 (r_Leg x2_1_Legs)),.r (.s 1 (r_I64 x2_1_Off)),.r (.v (.int .i64 x2_1_Change))] []))]}:St)) 1 (fun p=>p.1.1) ⟨(ap 1 (llen (r_Scan x3)),1),rfl,Int.le_refl _,ho1⟩ (Unit) (fun _=>({sl:=[(3,.c (.p 0 3 0 0)),(4,.c (.r (.s 6 (r_Scan x2_2_1)))),(5,.c (.r (.v (.int .i64 x2_2_2)))),(6,.c (.r (.s 6 (r_Scan x3))))],tab:=[(0,some (.foc 3 [] [.r (.s 6 (r_Leg x2_1_Legs)),.r (.s 1 (r_I64 x2_1_Off)),.r (.v (.int .i64 x2_1_Change))] []))]}:St)) 1 (fun y=>o1=LR.out y) ?_ ?_ ?_
 ·refine Wk.of [(0,some 144)] rfl rfl ?_ ?_
  ·cbv;all_goals exact⟨⟨_,rfl,rfl⟩,⟨_,rfl,rfl⟩,⟨_,rfl,rfl⟩,⟨_,rfl,rfl⟩,⟨_,rfl,rfl⟩,trivial⟩
  cbv;all_goals exact⟨⟨_,rfl,_,rfl,rfl,rfl,rfl,trivial⟩,trivial⟩
 ·rintro⟨⟨n1,v1⟩,hn1,hi1,h_1⟩ hq1;try dsimp only at hn1 hi1 h_1
  clear hq1;cbv;rcases n1 with _|n1
  ·have hb5:lt v1 (llen (r_Scan x3))=false:=ba hg hn1;rw[bv] at h_1;try rw[←hg] at h_1
   try rw[←ht] at h_1
   try dsimp only at h_1
   rw[hb5];cbv;refine⟨(),Wk.of [(0,some 0)] rfl rfl ?_ ?_,(Option.some.inj h_1).symm⟩
   ·cbv;all_goals exact⟨⟨_,rfl,rfl⟩,⟨_,rfl,rfl⟩,⟨_,rfl,rfl⟩,⟨_,rfl,rfl⟩,trivial⟩
   cbv;all_goals exact⟨⟨_,rfl,_,rfl,rfl,rfl,rfl,trivial⟩,trivial⟩
  have hb5:lt v1 (llen (r_Scan x3))=true:=bt hg hn1;have hl1:=cR hn1;have hs1:=bS hg hn1 hi1 hB1 (by decide);rw[bv] at h_1;try rw[←hg] at h_1
  try rw[←ht] at h_1
  try dsimp only at h_1
  rw[hb5];cbv;obtain⟨hc1,h_1⟩:=ak h_1;refine AStep.mk hc1 ?_;cbv;obtain⟨x8,hx8,h_1⟩:=aE h_1;obtain⟨x8_Thing,x8_At,x8_Kind,x8_Place,⟨x8_Trip_Leg,x8_Trip_Day⟩⟩:=x8;try dsimp only at h_1
  refine AGet.mk _ (eB hg ht hx8) ?_;cbv;refine AStep.mk (GK hi1) ?_;cbv;obtain⟨x9,hx9,h_1⟩:=aE h_1;obtain⟨x9_Thing,x9_At,x9_Kind,x9_Place,⟨x9_Trip_Leg,x9_Trip_Day⟩⟩:=x9;try dsimp only at h_1
  refine AGet.mk _ (eB hg ht hx9) ?_;cbv;obtain⟨x10,hx10,h_1⟩:=ae h_1;try dsimp only at h_1
  refine ACall.mk _ _ rfl (hF _ _ _ (hG hg ht hx10)) (.inl rfl) (nb rfl) ?_;cbv
  cases hb6:x10
  ·rw[aa hb6] at h_1;cbv;obtain rfl:=Option.some.inj h_1;try dsimp only[lr,lrL,lrp,aZ] at h
   obtain rfl:=Option.some.inj h;exact ARet.mk trivial hX.symm
  rw[ab hb6] at h_1;cbv;try rw[hg] at h_1
  try rw[ht] at h_1
  refine⟨⟨(n1,(wrap .i64 (add v1 1))),hs1.1,hs1.2,h_1⟩,Wk.of [(0,some 0)] rfl rfl ?_ ?_,Nat.lt_succ_self _⟩
  ·cbv;all_goals exact⟨⟨_,rfl,rfl⟩,⟨_,rfl,rfl⟩,⟨_,rfl,rfl⟩,⟨_,rfl,rfl⟩,⟨_,rfl,rfl⟩,trivial⟩
  cbv;all_goals exact⟨⟨_,rfl,_,rfl,rfl,rfl,rfl,trivial⟩,trivial⟩
 rintro _ hy1;replace hy1:=hy1.symm;subst hy1;try dsimp only[lr,lrL,lrp,aZ] at h
 cbv;obtain⟨x11,hx11,h⟩:=ae h;try dsimp only at h
 refine ACallR.mk _ _ (.c (.r (.s 6 (r_Scan x11)))) rfl (hF _ _ _ (hO hg ht hx11)) (.inl rfl) (nb rfl) (by cbv;(try simp only[hrda_Scan])) ?_;cbv
 cases hb7:(eq (llen (r_Scan x3)) 0)
 rotate_left
 ·rw[ab hb7] at h;cbv
  cases hb8:(eq (llen (r_Scan x11)) 0)
  rotate_left
  ·rw[ab hb8] at h;cbv;obtain rfl:=Option.some.inj h;exact ARet.mk trivial hX.symm
  rw[aa hb8] at h;cbv;obtain rfl:=Option.some.inj h;exact ARet.mk trivial hX.symm
 rw[aa hb7] at h;cbv
 cases hb9:(eq (llen (r_Scan x11)) 0)
 rotate_left
 ·rw[ab hb9] at h;cbv;obtain rfl:=Option.some.inj h;exact ARet.mk trivial hX.symm
 rw[aa hb9] at h;cbv;obtain rfl:=Option.some.inj h;exact ARet.mk trivial hX.symm
def ir10:J:=js [jm 2 kf] [0] (.seq (js [jm 13 0,jc 14 11 [13]] [0,14] (.cond 14 (js [jm 2 kt] [2] .ret) .skip)) (js [jm 16 0,jq 17 (.call 49 false [16]),jm 15 17,jq 18 (.ext 0 15),jq 19 (.ext 1 15),jq 20 (.ext 2 15),jq 21 (.ext 3 15),jq 3 (.alloc [.n 6,.n 1,.r (.v (.int .i64 0))]),jp (.st 3 3 18),jm 4 19,jm 5 20,jm 6 21] [3,4,5,6] (js [jl 23 3 3,jm 24 4,jm 25 5,jm 26 6,jc 27 50 [23,24,25,26],jm 22 27,jq 28 (.ext 0 22),jq 29 (.ext 1 22),jq 7 (.alloc [.r (.v (.int .i64 0)),.r (.v (.int .i64 0)),.r (.v (.int .i64 0)),.r (.v (.string .empty)),.r (.v (.int .i64 0)),.r (.v (.int .i64 0))]),jp (.st 6 7 28),jm 8 29] [3,4,5,6,7,8] (.seq (js [jl 31 3 3,jm 32 4,jm 33 5,jm 34 6,jc 35 51 [31,32,33,34],jm 30 35,jq 36 (.ext 0 30),jq 37 (.ext 1 30),jq 9 (.alloc [.r (.v (.int .i64 0)),.r (.v (.int .i64 0)),.r (.v (.int .i64 0)),.r (.v (.string .empty)),.r (.v (.int .i64 0)),.r (.v (.int .i64 0))]),jp (.st 6 9 36),jm 10 37] [3,4,5,6,7,8,10] (js [jm 38 8,jm 39 10,jb 40 .neq .b 38 39] [3,4,5,6,7,8,40] (.cond 40 (js [jm 2 kf] [2] .ret) .skip))) (js [jl 42 3 3,jm 43 4,jm 44 5,jm 45 6,jc 46 52 [42,43,44,45],jm 41 46,jq 47 (.ext 0 41),jq 48 (.ext 1 41),jq 11 (.alloc [.r (.v (.int .i64 0)),.r (.v (.int .i64 0)),.r (.v (.int .i64 0)),.r (.v (.string .empty)),.r (.v (.int .i64 0)),.r (.v (.int .i64 0))]),jp (.st 6 11 47),jm 12 48] [3,4,5,6,7,8,11,12] (.seq (js [jm 49 8,jm 50 49,ju 51 50 (.fa 1 7),ju 52 50 (.ld false 1 51),ju 53 50 (.mv 6),ju 54 50 (.bin .gtr .i 52 53),jq 55 (.pick 50 54 kf),jm 56 55,jv 57 56 (.mv 12),jv 58 56 (.mv 57),ju 59 58 (.fa 1 11),ju 60 58 (.ld false 1 59),ju 61 58 (.mv 6),ju 62 58 (.bin .leq .i 60 61),jv 63 56 (.pick 58 62 kf),jq 64 (.pick 56 kt 63)] [3,4,5,7,8,11,12,64] (.cond 64 (js [jm 2 kf] [2] .ret) .skip)) (.seq (js [jm 65 8,jm 66 65,ju 67 66 (.mv 12),jq 68 (.pick 66 67 kf),jm 69 68,ju 70 69 (.ld true 3 3),ju 71 69 (.ld true 6 7),ju 72 69 (.ld true 6 11),ju 73 69 (.call 48 true [70,71,72]),ju 74 69 (.not 73),jq 75 (.pick 69 74 kf)] [3,4,5,8,12,75] (.cond 75 (js [jm 2 kf] [2] .ret) .skip)) (js [jm 76 8,jm 77 76,jv 78 77 (.mv 12),jq 79 (.pick 77 kt 78),jm 80 79,jv 81 80 (.ld true 3 3),jv 82 80 (.mv 4),jv 83 80 (.mv 5),jv 84 80 (.call 21 false [81,82,83]),jv 85 80 (.len false 84),jv 86 80 (.bin .eql .i 85 (ki 0)),jq 87 (.pick 80 kt 86),jm 2 87] [2] .ret))))))))
def rv10:List RV:=[.t 2]
def im (g:G) (t:TE) (a0:List Int):Option Bool:=
 lP (pw g t a0) fun x1=>
 br x1
 (
  some true)
 (
  cl (eL g t a0) fun x2=>
  cl (fL g t (Network.mk x2.1.Legs x2.1.Off x2.1.Change) x2.2.1 x2.2.2.1 x2.2.2.2) fun x3=>
  cl (gK g t (Network.mk x2.1.Legs x2.1.Off x2.1.Change) x2.2.1 x2.2.2.1 x2.2.2.2) fun x4=>
  br x3.2
  (
   br x4.2
   (
    cl (eO g t (Network.mk x2.1.Legs x2.1.Off x2.1.Change) x2.2.1 x2.2.2.1 x2.2.2.2) fun x5=>
    br (g.lt x2.2.2.2 x3.1.At)
    (
     some false)
    (
     br x5.2
     (
      br (g.le x5.1.At x2.2.2.2)
      (
       some false)
      (
       cl (dJ g t (Network.mk x2.1.Legs x2.1.Off x2.1.Change) (Scan.mk x3.1.Thing x3.1.At x3.1.Kind x3.1.Place (Trip.mk x3.1.Trip.Leg x3.1.Trip.Day)) (Scan.mk x5.1.Thing x5.1.At x5.1.Kind x5.1.Place (Trip.mk x5.1.Trip.Leg x5.1.Trip.Day))) fun x6=>
       br x6
       (
        some true)
       (
        some false)))
     (
      some true)))
   (
    some false))
  (
   br x4.2
   (
    some false)
   (
    cl (eO g t (Network.mk x2.1.Legs x2.1.Off x2.1.Change) x2.2.1 x2.2.2.1 x2.2.2.2) fun x7=>
    br x7.2
    (
     br (g.le x7.1.At x2.2.2.2)
     (
      some false)
     (
      some true))
    (
     cl (dk g t (Network.mk x2.1.Legs x2.1.Off x2.1.Change) x2.2.1 x2.2.2.1) fun x8=>
     some (g.eq (g.llen (t.r_Scan x8)) 0)))))
theorem sT {g:G} {t:TE} {a0:List Int} {r:Bool} (hg:g=G.real) (ht:t=TE.real) (h:im g t a0=some r):Fn Tryz.prog 10 [.c (.s 1 (t.r_U8 a0))] (.c (.r (.v (.bool r)))):=by
 obtain⟨X,hX⟩:=aC (.c (.r (.v (.bool r))):X);rw[←hX];refine aA (rvs:=rv10) (j:=ir10) Tryz.func10 rfl (by kernel_rfl) (nb rfl) (by kernel_rfl) af ?_;intro g2 F hg2 hF;obtain rfl:g2=g:=hg2.unique.trans hg.symm;clear hg2;obtain⟨_,lt,le,_,_,_,_,_,_,_,_,_,_,_,_,_,_,_,_,_,_,_,_,_,_,_,_,_,_,rda⟩:=g2;obtain⟨_,_,r_Scan,d_Scan,r_Leg,d_Leg,r_I64,d_I64⟩:=t
 have hrda_Scan:∀l,rda (d_Scan l)=r_Scan l:=lf hg ht;have hrda_Leg:∀l,rda (d_Leg l)=r_Leg l:=oA hg ht;have hrda_I64:∀l,rda (d_I64 l)=r_I64 l:=mc hg ht;unfold im at h;try dsimp only at h
 cbv;obtain⟨x1,hx1,h⟩:=ah h;try dsimp only at h
 refine ACall.mk _ _ rfl (hF _ _ _ (uM hg ht hx1)) (.inl rfl) (nb rfl) ?_;cbv
 cases hb1:x1
 rotate_left
 ·rw[ab hb1] at h;cbv;obtain rfl:=Option.some.inj h;exact ARet.mk trivial hX.symm
 rw[aa hb1] at h;cbv;obtain⟨x2,hx2,h⟩:=ae h;obtain⟨⟨x2_1_Legs,x2_1_Off,x2_1_Change⟩,x2_2_1,x2_2_2_1,x2_2_2_2⟩:=x2;try dsimp only at h
 refine ACallR.mk _ _ (.u [.g [.r (.s 6 (r_Leg x2_1_Legs)),.r (.s 1 (r_I64 x2_1_Off)),.r (.v (.int .i64 x2_1_Change))],.c (.r (.s 6 (r_Scan x2_2_1))),.c (.r (.v (.int .i64 x2_2_2_1))),.c (.r (.v (.int .i64 x2_2_2_2)))]) rfl (hF _ _ _ (pm hg ht hx2)) (.inl rfl) (nb rfl) (by cbv;(try simp only[hrda_I64,hrda_Leg,hrda_Scan])) ?_;cbv;obtain⟨x3,hx3,h⟩:=ae h;obtain⟨⟨x3_1_Thing,x3_1_At,x3_1_Kind,x3_1_Place,⟨x3_1_Trip_Leg,x3_1_Trip_Day⟩⟩,x3_2⟩:=x3;try dsimp only at h
 refine ACall.mk _ _ rfl (hF _ _ _ (uI hg ht hx3)) (.inl rfl) (nb rfl) ?_;cbv;obtain⟨x4,hx4,h⟩:=ae h;obtain⟨⟨x4_1_Thing,x4_1_At,x4_1_Kind,x4_1_Place,⟨x4_1_Trip_Leg,x4_1_Trip_Day⟩⟩,x4_2⟩:=x4;try dsimp only at h
 refine ACall.mk _ _ rfl (hF _ _ _ (vf hg ht hx4)) (.inl rfl) (nb rfl) ?_;cbv;have hb2:x3_2=true∨x3_2=false:=by cases x3_2<;>simp
 rcases hb2 with hb2|hb2
 ·rw[ab hb2] at h;have hK_:=h;subst hb2;have h:=hK_;clear hK_;cbv;have hb3:x4_2=true∨x4_2=false:=by cases x4_2<;>simp
  rcases hb3 with hb3|hb3
  ·rw[ab hb3] at h;have hK_:=h;subst hb3;have h:=hK_;clear hK_;cbv;obtain⟨x5,hx5,h⟩:=ae h;obtain⟨⟨x5_1_Thing,x5_1_At,x5_1_Kind,x5_1_Place,⟨x5_1_Trip_Leg,x5_1_Trip_Day⟩⟩,x5_2⟩:=x5;try dsimp only at h
   refine ACall.mk _ _ rfl (hF _ _ _ (n9 hg ht hx5)) (.inl rfl) (nb rfl) ?_;cbv;iterate 5 try(rw[hb2];cbv)
   cases hb4:(lt x2_2_2_2 x3_1_At)
   rotate_left
   ·rw[ab hb4] at h;cbv;iterate 3 try(rw[hb4];cbv)
    obtain rfl:=Option.some.inj h;exact ARet.mk trivial hX.symm
   rw[aa hb4] at h;cbv;try(rw[hb4];cbv)
   have hb5:x5_2=true∨x5_2=false:=by cases x5_2<;>simp
   rcases hb5 with hb5|hb5
   ·rw[ab hb5] at h;have hK_:=h;subst hb5;have h:=hK_;clear hK_;cbv;iterate 3 try(rw[hb5];cbv)
    try(rw[hb4];cbv)
    try(rw[hb5];cbv)
    try(rw[hb4];cbv)
    cases hb6:(le x5_1_At x2_2_2_2)
    rotate_left
    ·rw[ab hb6] at h;cbv;obtain rfl:=Option.some.inj h;exact ARet.mk trivial hX.symm
    rw[aa hb6] at h;cbv;iterate 2 try(rw[hb2];cbv)
    iterate 4 try(rw[hb5];cbv)
    obtain⟨x6,hx6,h⟩:=ae h;try dsimp only at h
    refine ACall.mk _ _ rfl (hF _ _ _ (hG hg ht hx6)) (.inl rfl) (nb rfl) ?_;cbv;iterate 2 try(rw[hb5];cbv)
    cases hb7:x6
    ·rw[aa hb7] at h;cbv;obtain rfl:=Option.some.inj h;exact ARet.mk trivial hX.symm
    rw[ab hb7] at h;cbv;iterate 2 try(rw[hb2];cbv)
    obtain rfl:=Option.some.inj h;exact ARet.mk trivial hX.symm
   rw[aa hb5] at h;have hK_:=h;subst hb5;have h:=hK_;clear hK_;cbv;iterate 3 try(rw[hb5];cbv)
   try(rw[hb4];cbv)
   try(rw[hb5];cbv)
   try(rw[hb4];cbv)
   iterate 2 try(rw[hb2];cbv)
   iterate 6 try(rw[hb5];cbv)
   iterate 2 try(rw[hb2];cbv)
   obtain rfl:=Option.some.inj h;exact ARet.mk trivial hX.symm
  rw[aa hb3] at h;have hK_:=h;subst hb3;have h:=hK_;clear hK_;cbv;obtain rfl:=Option.some.inj h;exact ARet.mk trivial hX.symm
 rw[aa hb2] at h;have hK_:=h;subst hb2;have h:=hK_;clear hK_;cbv;have hb8:x4_2=true∨x4_2=false:=by cases x4_2<;>simp
 rcases hb8 with hb8|hb8
 ·rw[ab hb8] at h;have hK_:=h;subst hb8;have h:=hK_;clear hK_;cbv;obtain rfl:=Option.some.inj h;exact ARet.mk trivial hX.symm
 rw[aa hb8] at h;have hK_:=h;subst hb8;have h:=hK_;clear hK_;cbv;obtain⟨x7,hx7,h⟩:=ae h;obtain⟨⟨x7_1_Thing,x7_1_At,x7_1_Kind,x7_1_Place,⟨x7_1_Trip_Leg,x7_1_Trip_Day⟩⟩,x7_2⟩:=x7;try dsimp only at h
 refine ACall.mk _ _ rfl (hF _ _ _ (n9 hg ht hx7)) (.inl rfl) (nb rfl) ?_;cbv;iterate 5 try(rw[hb2];cbv)
 have hb9:x7_2=true∨x7_2=false:=by cases x7_2<;>simp
 rcases hb9 with hb9|hb9
 ·rw[ab hb9] at h;have hK_:=h;subst hb9;have h:=hK_;clear hK_;cbv;iterate 4 try(rw[hb9];cbv)
  cases hb10:(le x7_1_At x2_2_2_2)
  rotate_left
  ·rw[ab hb10] at h;cbv;obtain rfl:=Option.some.inj h;exact ARet.mk trivial hX.symm
  rw[aa hb10] at h;cbv;iterate 4 try(rw[hb2];cbv)
  iterate 7 try(rw[hb9];cbv)
  obtain rfl:=Option.some.inj h;exact ARet.mk trivial hX.symm
 rw[aa hb9] at h;have hK_:=h;subst hb9;have h:=hK_;clear hK_;cbv;iterate 4 try(rw[hb9];cbv)
 iterate 4 try(rw[hb2];cbv)
 iterate 4 try(rw[hb9];cbv)
 obtain⟨x8,hx8,h⟩:=ae h;try dsimp only at h
 refine ACallR.mk _ _ (.c (.r (.s 6 (r_Scan x8)))) rfl (hF _ _ _ (ik hg ht hx8)) (.inl rfl) (nb rfl) (by cbv;(try simp only[hrda_Scan])) ?_;cbv;iterate 3 try(rw[hb9];cbv)
 obtain rfl:=Option.some.inj h;exact ARet.mk trivial hX.symm
end Go.Vs
