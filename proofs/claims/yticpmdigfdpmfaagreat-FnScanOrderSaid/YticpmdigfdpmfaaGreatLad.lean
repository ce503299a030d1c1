/- Part of the proofs of this seat's laws: Lad. No condition. -/
import Derived.Test.YticpmdigfdpmfaaGreatTy
import Derived.Test.YticpmdigfdpmfaaGreatTIRall
import Derived.Test.YticpmdigfdpmfaaGreatLab
import Derived.Test.YticpmdigfdpmfaaGreatLac
import Derived.Test.YticpmdigfdpmfaaGreatLaa
set_option linter.unusedVariables false
set_option linter.unusedSimpArgs false
set_option linter.unusedSectionVars false
namespace Go.Vs
set_option maxRecDepth 100000
def HZ (s_k0 s_k1 s_k8:ByteArray):J:=js [jq 3 (.box 1),jq 4 (.alloc [.r (.v (.int .i64 0)),.r (.v (.int .i64 0)),.r (.v (.int .i64 0)),.r (.v (.string .empty)),.r (.v (.int .i64 0)),.r (.v (.int .i64 0))])] [0,3,4] (js [jm 6 0,jl 7 3 3,jq 8 (.callm 174 true 6 [7]),jq 5 (.alloc [.r (.v (.int .i64 0)),.r (.v (.int .i64 0)),.r (.v (.int .i64 0)),.r (.v (.string .empty)),.r (.v (.int .i64 0)),.r (.v (.int .i64 0))]),jp (.st 6 5 8)] [0,4,5] (.seq (js [jm 9 0,jq 10 (.callm 90 true 9 [(ki 9)])] [0,4,5,10] (.block 0 (js [jb 12 .eql .i 10 (ki 0),jm 11 12] [0,4,5,10,11] (.cond 11 (.reg none [jm 13 0,jq 14 (.bslr 1 [(ki 0),(ki 9999),(ki 10000)]),jq 15 (.callm 72 true 13 [14]),jf 16 0 5,jp (.st 1 16 15)] [4,5]) (js [jb 18 .eql .i 10 (ki 1),jm 17 18] [0,4,5,10,17] (.cond 17 (.reg none [jm 19 0,jq 20 (.callm 125 true 19 []),jf 21 1 5,jp (.st 1 21 20)] [4,5]) (js [jb 23 .eql .i 10 (ki 2),jm 22 23] [0,4,5,10,22] (.cond 22 (.reg none [jm 24 0,jq 25 (.callm 90 true 24 [(ki 6)]),jf 26 2 5,jp (.st 1 26 25)] [4,5]) (js [jb 28 .eql .i 10 (ki 3),jm 27 28] [0,4,5,10,27] (.cond 27 (.reg none [jm 29 0,jq 30 (.bslr 1 [(.k (.c (.r (.v (.string s_k0))))),(.k (.c (.r (.v (.string s_k1))))),(.k (.c (.r (.v (.string s_k8)))))]),jq 31 (.callm 155 true 29 [30]),jf 32 3 5,jp (.st 1 32 31)] [4,5]) (js [jb 34 .eql .i 10 (ki 4),jm 33 34] [0,4,5,10,33] (.cond 33 (.reg none [jm 35 0,jq 36 (.bslr 1 [(ki 0),(ki 1),(ki 60),(ki 61),(.k (V.i (-1)))]),jq 37 (.callm 72 true 35 [36]),jf 38 4 5,jf 39 1 38,jp (.st 1 39 37)] [4,5]) (js [jb 41 .eql .i 10 (ki 5),jm 40 41] [0,4,5,40] (.cond 40 (.reg (some [[],[0],[],[],[2,3],[0,1,2,3,4],[0,1,2,3,4,5],[0,1,2,3,4,5,6]]) [jf 42 1 5,jk 43 42,jm 44 0,jq 45 (.bslr 1 [(.k (V.i (-1))),(ki 1)]),jq 46 (.callm 72 true 44 [45]),jb 47 .add .i 43 46,jf 48 1 5,jp (.st 1 48 47)] [4,5]) .skip)))))))))))))) (js [jl 49 6 5,jp (.st 6 4 49)] [4] .ret)))
def Gp:List RV:=[.c 4 true 6]
open Go.Proofs Go.IntWalk
set_option linter.unusedVariables false
set_option maxHeartbeats 4000000
def iv (g:G) (t:TE) (a0:Cur) (a1:Network):Option (Scan×Cur):=
 cl (lu g t a0 a1) fun x1=>
 cl (aF g t (Cur.mk x1.2.b x1.2.i x1.2.h) 9) fun x2=>
 br (g.eq x2.1 0)
 (
  lP ([0,9999,10000]) fun(l1:List Int)=>
  cl (df g t (Cur.mk x2.2.b x2.2.i x2.2.h) l1) fun x3=>
  some (((Scan.mk x3.1 x1.1.At x1.1.Kind x1.1.Place (Trip.mk x1.1.Trip.Leg x1.1.Trip.Day)),(Cur.mk x3.2.b x3.2.i x3.2.h))))
 (
  br (g.eq x2.1 1)
  (
   cl (mt g t (Cur.mk x2.2.b x2.2.i x2.2.h)) fun x4=>
   some (((Scan.mk x1.1.Thing x4.1 x1.1.Kind x1.1.Place (Trip.mk x1.1.Trip.Leg x1.1.Trip.Day)),(Cur.mk x4.2.b x4.2.i x4.2.h))))
  (
   br (g.eq x2.1 2)
   (
    cl (aF g t (Cur.mk x2.2.b x2.2.i x2.2.h) 6) fun x5=>
    some (((Scan.mk x1.1.Thing x1.1.At x5.1 x1.1.Place (Trip.mk x1.1.Trip.Leg x1.1.Trip.Day)),(Cur.mk x5.2.b x5.2.i x5.2.h))))
   (
    br (g.eq x2.1 3)
    (
     lP ([str_k0,jg,zd]) fun(l2:List ByteArray)=>
     cl (kY g t (Cur.mk x2.2.b x2.2.i x2.2.h) l2) fun x6=>
     some (((Scan.mk x1.1.Thing x1.1.At x1.1.Kind x6.1 (Trip.mk x1.1.Trip.Leg x1.1.Trip.Day)),(Cur.mk x6.2.b x6.2.i x6.2.h))))
    (
     br (g.eq x2.1 4)
     (
      lP ([0,1,60,61,(-1)]) fun(l3:List Int)=>
      cl (df g t (Cur.mk x2.2.b x2.2.i x2.2.h) l3) fun x7=>
      some (((Scan.mk x1.1.Thing x1.1.At x1.1.Kind x1.1.Place (Trip.mk x1.1.Trip.Leg x7.1)),(Cur.mk x7.2.b x7.2.i x7.2.h))))
     (
      br (g.eq x2.1 5)
      (
       lP ([(-1),1]) fun(l4:List Int)=>
       cl (df g t (Cur.mk x2.2.b x2.2.i x2.2.h) l4) fun x8=>
       some (((Scan.mk x1.1.Thing (g.wrap .i64 (g.add x1.1.At x8.1)) x1.1.Kind x1.1.Place (Trip.mk x1.1.Trip.Leg x1.1.Trip.Day)),(Cur.mk x8.2.b x8.2.i x8.2.h))))
      (
       some (((Scan.mk x1.1.Thing x1.1.At x1.1.Kind x1.1.Place (Trip.mk x1.1.Trip.Leg x1.1.Trip.Day)),(Cur.mk x2.2.b x2.2.i x2.2.h)))))))))
theorem sY {g:G} {t:TE} {a0:Cur} {a1:Network} {r:Scan×Cur} (hg:g=G.real) (ht:t=TE.real) (h:iv g t a0 a1=some r):FnM Tryz.prog 139 (.p (Cur.ds t a0)) [.g (Network.rs t a1)] (.g (Scan.ds t r.1)) (.p (Cur.ds t r.2)):=by
 obtain⟨X,hX⟩:=aC (.g (Scan.ds t r.1):X);obtain⟨Y,hY⟩:=aC (.p (Cur.ds t r.2):AM);rw[←hX,←hY];refine eI (rvs:=Gp) (j:=(HZ str_k0 jg zd)) Tryz.func139 rfl (by kernel_rfl) (nb rfl) (by kernel_rfl) af ?_;intro g2 F hg2 hF;obtain rfl:g2=g:=hg2.unique.trans hg.symm;clear hg2;obtain⟨_,_,_,eq⟩:=g2;obtain⟨_,_,_,_,_,_,r_I64,_,_,_,_,_,r_S⟩:=t
 obtain⟨a0_b,a0_i,a0_h⟩:=a0;obtain⟨a1_Legs,a1_Off,a1_Change⟩:=a1;unfold iv at h;try dsimp only at h
 obtain⟨s_k0,hs_k0⟩:∃s,str_k0=s:=⟨_,rfl⟩;try rw[hs_k0] at h
 rw[hs_k0];obtain⟨s_k1,hs_k1⟩:∃s,jg=s:=⟨_,rfl⟩;try rw[hs_k1] at h
 rw[hs_k1];obtain⟨s_k8,hs_k8⟩:∃s,zd=s:=⟨_,rfl⟩;try rw[hs_k8] at h
 rw[hs_k8];cbv;obtain⟨x1,hx1,h⟩:=ae h;obtain⟨⟨x1_1_Thing,x1_1_At,x1_1_Kind,x1_1_Place,⟨x1_1_Trip_Leg,x1_1_Trip_Day⟩⟩,⟨x1_2_b,x1_2_i,x1_2_h⟩⟩:=x1;try dsimp only at h
 refine ACallM.mk _ _ _ _ rfl rfl (hF _ _ _ (yH hg ht hx1)) rfl (nb rfl) (nb rfl) ?_;cbv;obtain⟨x2,hx2,h⟩:=ae h;obtain⟨x2_1,⟨x2_2_b,x2_2_i,x2_2_h⟩⟩:=x2;try dsimp only at h
 refine ACallM.mk _ _ _ _ rfl rfl (hF _ _ _ (ay hg ht hx2)) rfl (nb rfl) (nb rfl) ?_;cbv
 cases hb1:(eq x2_1 0)
 rotate_left
 ·rw[ab hb1] at h;cbv;obtain⟨l1,hl1,h⟩:=ah h;try dsimp only at h
  refine AVal.mk (r_I64 l1) (by rw[←hl1];exact dE hg ht [0,9999,10000]) ?_;cbv;obtain⟨x3,hx3,h⟩:=ae h;obtain⟨x3_1,⟨x3_2_b,x3_2_i,x3_2_h⟩⟩:=x3;try dsimp only at h
  refine ACallM.mk _ _ _ _ rfl rfl (hF _ _ _ (cK hg ht hx3)) rfl (nb rfl) (nb rfl) ?_;cbv;obtain rfl:=Option.some.inj h;exact ARetM.mk trivial hX.symm hY.symm
 rw[aa hb1] at h;cbv
 cases hb2:(eq x2_1 1)
 rotate_left
 ·rw[ab hb2] at h;cbv;obtain⟨x4,hx4,h⟩:=ae h;obtain⟨x4_1,⟨x4_2_b,x4_2_i,x4_2_h⟩⟩:=x4;try dsimp only at h
  refine ACallM.mk _ _ _ _ rfl rfl (hF _ _ _ (t6 hg ht hx4)) rfl (nb rfl) (nb rfl) ?_;cbv;obtain rfl:=Option.some.inj h;exact ARetM.mk trivial hX.symm hY.symm
 rw[aa hb2] at h;cbv
 cases hb3:(eq x2_1 2)
 rotate_left
 ·rw[ab hb3] at h;cbv;obtain⟨x5,hx5,h⟩:=ae h;obtain⟨x5_1,⟨x5_2_b,x5_2_i,x5_2_h⟩⟩:=x5;try dsimp only at h
  refine ACallM.mk _ _ _ _ rfl rfl (hF _ _ _ (ay hg ht hx5)) rfl (nb rfl) (nb rfl) ?_;cbv;obtain rfl:=Option.some.inj h;exact ARetM.mk trivial hX.symm hY.symm
 rw[aa hb3] at h;cbv
 cases hb4:(eq x2_1 3)
 rotate_left
 ·rw[ab hb4] at h;cbv;obtain⟨l2,hl2,h⟩:=ah h;try dsimp only at h
  refine AVal.mk (r_S l2) (by rw[←hl2];exact yK hg ht [s_k0,s_k1,s_k8]) ?_;cbv;obtain⟨x6,hx6,h⟩:=ae h;obtain⟨x6_1,⟨x6_2_b,x6_2_i,x6_2_h⟩⟩:=x6;try dsimp only at h
  refine ACallM.mk _ _ _ _ rfl rfl (hF _ _ _ (pp hg ht hx6)) rfl (nb rfl) (nb rfl) ?_;cbv;obtain rfl:=Option.some.inj h;exact ARetM.mk trivial hX.symm hY.symm
 rw[aa hb4] at h;cbv
 cases hb5:(eq x2_1 4)
 rotate_left
 ·rw[ab hb5] at h;cbv;obtain⟨l3,hl3,h⟩:=ah h;try dsimp only at h
  refine AVal.mk (r_I64 l3) (by rw[←hl3];exact dE hg ht [0,1,60,61,(-1)]) ?_;cbv;obtain⟨x7,hx7,h⟩:=ae h;obtain⟨x7_1,⟨x7_2_b,x7_2_i,x7_2_h⟩⟩:=x7;try dsimp only at h
  refine ACallM.mk _ _ _ _ rfl rfl (hF _ _ _ (cK hg ht hx7)) rfl (nb rfl) (nb rfl) ?_;cbv;obtain rfl:=Option.some.inj h;exact ARetM.mk trivial hX.symm hY.symm
 rw[aa hb5] at h;cbv
 cases hb6:(eq x2_1 5)
 ·rw[aa hb6] at h;cbv;obtain rfl:=Option.some.inj h;exact ARetM.mk trivial hX.symm hY.symm
 rw[ab hb6] at h;cbv;obtain⟨l4,hl4,h⟩:=ah h;try dsimp only at h
 refine AVal.mk (r_I64 l4) (by rw[←hl4];exact dE hg ht [(-1),1]) ?_;cbv;obtain⟨x8,hx8,h⟩:=ae h;obtain⟨x8_1,⟨x8_2_b,x8_2_i,x8_2_h⟩⟩:=x8;try dsimp only at h
 refine ACallM.mk _ _ _ _ rfl rfl (hF _ _ _ (cK hg ht hx8)) rfl (nb rfl) (nb rfl) ?_;cbv;obtain rfl:=Option.some.inj h;exact ARetM.mk trivial hX.symm hY.symm
def ir89:J:=js [jq 3 (.box 1),jq 4 (.mv (.k (.c (.n 6))))] [0,3] (.seq (.reg (some [[],[],[0,1],[],[],[0,1,2,3,4],[0,1,2,3,4,5],[0,1,2,3,4,5,6]]) [jm 10 0,jl 11 3 3,jq 12 (.callm 138 true 10 [11,(ki 1)]),jm 13 0,jl 14 3 3,jq 15 (.callm 138 true 13 [14,(ki 2)]),jq 16 (.app 6 56 false 12 15),jm 5 16] [0,3,5]) (.seq (js [jm 17 0,jq 18 (.callm 90 true 17 [(ki 4)]),jm 6 18] [0,3,5,6] (.bl 0 (.seq (js [jm 19 6,jb 20 .gtr .i 19 (ki 0)] [0,3,5,6,20] (.cond 20 .skip (.exit 0))) (.seq (.block 1 (.reg none [jm 23 5,jm 24 0,jl 25 3 3,jq 26 (.callm 139 true 24 [25]),jq 27 (.bsl 6 [26]),jq 28 (.app 6 56 true 23 27),jm 5 28] [0,3,5,6])) (.reg none [jm 21 6,jb 22 .sub .i 21 (ki 1),jm 6 22] [0,3,5,6]))))) (.seq (js [jm 29 0,jq 30 (.callm 90 true 29 [(ki 4)]),jm 7 30] [0,5,7] (.bl 2 (.seq (js [jm 31 7,jb 32 .gtr .i 31 (ki 0),jm 33 32,ju 34 33 (.mv 5),ju 35 33 (.len false 34),ju 36 33 (.bin .gtr .i 35 (ki 1)),jq 37 (.pick 33 36 kf)] [0,5,7,37] (.cond 37 .skip (.exit 2))) (.seq (.block 3 (js [jm 40 0,jm 41 5,jq 42 (.len false 41),jq 43 (.callm 90 true 40 [42]),jm 8 43] [0,5,7,8] (js [jm 44 5,jm 45 8,ja 46 6 44 45,jl 47 6 46,jq 9 (.alloc [.r (.v (.int .i64 0)),.r (.v (.int .i64 0)),.r (.v (.int .i64 0)),.r (.v (.string .empty)),.r (.v (.int .i64 0)),.r (.v (.int .i64 0))]),jp (.st 6 9 47)] [0,5,7,8,9] (.seq (.reg (some [[],[],[],[1,2],[0,1,2,3],[],[],[6],[5,6,7],[0,1,2,3,4,5,6,7,8],[],[10],[0,1,2,3,4,5,6,7,8,9,10,11],[0,1,2,3,4,5,6,7,8,9,10,11,12]]) [jq 48 (.bsl 6 []),jm 49 5,jm 50 8,jq 51 (.sl 6 49 none (some 50)),jq 52 (.app 6 56 false 48 51),jm 53 5,jm 54 8,jb 55 .add .i 54 (ki 1),jq 56 (.sl 6 53 (some 55) none),jq 57 (.app 6 56 false 52 56),jl 58 6 9,jq 59 (.bsl 6 [58]),jq 60 (.app 6 56 true 57 59),jm 5 60] [0,5,7,9]) (js [jm 61 0,jq 62 (.callm 67 true 61 [(ki 2)])] [0,5,7,9,62] (.cond 62 (.reg none [jm 63 5,jl 64 6 9,jq 65 (.bsl 6 [64]),jq 66 (.app 6 56 true 63 65),jm 5 66] [0,5,7]) .skip)))))) (.reg none [jm 38 7,jb 39 .sub .i 38 (ki 1),jm 7 39] [0,5,7]))))) (js [jm 67 5,jm 4 67] [4] .ret))))
def rv89:List RV:=[.t 4]
def dw (g:G) (t:TE):Nat→List Int→Int→Int→List Scan→Int→Option ((List Int)×Int×Int×List Scan)
 |0,_,_,_,_,_=>none
 |n2+1,v5,v6,v7,w2,v8=>
  br (g.lt 0 v8)
  (
   br (g.lt 1 (g.int (g.dlen (t.d_Scan w2))))
   (
    cl (aF g t (Cur.mk v5 v6 v7) (g.int (g.dlen (t.d_Scan w2)))) fun x6=>
    gd (((0:Int)≤x6.1∧x6.1<(((g.dlen (t.d_Scan w2)):Nat):Int)))<|
    gt w2 (g.nat x6.1) fun x7=>
    lP ([]) fun(l4:List Scan)=>
    gd (((0:Int)≤0∧0≤x6.1∧x6.1≤(((g.dlen (t.d_Scan w2)):Nat):Int)))<|
    gd (((g.nat 0)+(g.nsub (g.nat x6.1) (g.nat 0))≤w2.length))<|
    gd (((l4.length+(List.take (g.nsub (g.nat x6.1) (g.nat 0)) (List.drop (g.nat 0) w2)).length)*56≤70368744177664))<|
    lP (l4++(List.take (g.nsub (g.nat x6.1) (g.nat 0)) (List.drop (g.nat 0) w2))) fun(l5:List Scan)=>
    gd (((0:Int)≤(g.wrap .i64 (g.add x6.1 1))∧(g.wrap .i64 (g.add x6.1 1))≤(g.int (g.dlen (t.d_Scan w2)))∧(g.int (g.dlen (t.d_Scan w2)))≤(((g.dlen (t.d_Scan w2)):Nat):Int)))<|
    gd (((g.nat (g.wrap .i64 (g.add x6.1 1)))+(g.nsub (g.nat (g.int (g.dlen (t.d_Scan w2)))) (g.nat (g.wrap .i64 (g.add x6.1 1))))≤w2.length))<|
    gd (((l5.length+(List.take (g.nsub (g.nat (g.int (g.dlen (t.d_Scan w2)))) (g.nat (g.wrap .i64 (g.add x6.1 1)))) (List.drop (g.nat (g.wrap .i64 (g.add x6.1 1))) w2)).length)*56≤70368744177664))<|
    lP (l5++(List.take (g.nsub (g.nat (g.int (g.dlen (t.d_Scan w2)))) (g.nat (g.wrap .i64 (g.add x6.1 1)))) (List.drop (g.nat (g.wrap .i64 (g.add x6.1 1))) w2))) fun(l6:List Scan)=>
    lP ([(Scan.mk x7.Thing x7.At x7.Kind x7.Place (Trip.mk x7.Trip.Leg x7.Trip.Day))]) fun(l7:List Scan)=>
    gd (((l6.length+l7.length)*56≤70368744177664))<|
    lP (l6++l7) fun(l8:List Scan)=>
    cl (cr g t (Cur.mk x6.2.b x6.2.i x6.2.h) 2) fun x8=>
    br x8.1
    (
     lP ([(Scan.mk x7.Thing x7.At x7.Kind x7.Place (Trip.mk x7.Trip.Leg x7.Trip.Day))]) fun(l9:List Scan)=>
     gd (((l8.length+l9.length)*56≤70368744177664))<|
     lP (l8++l9) fun(l10:List Scan)=>
     dw g t n2 x8.2.b x8.2.i x8.2.h l10 (g.wrap .i64 (g.sub v8 1)))
    (
     dw g t n2 x8.2.b x8.2.i x8.2.h l8 (g.wrap .i64 (g.sub v8 1))))
   (
    some (v5,v6,v7,w2)))
  (
   some (v5,v6,v7,w2))
def ed (g:G) (t:TE) (a1:Network):Nat→List Int→Int→Int→List Scan→Int→Option ((List Int)×Int×Int×List Scan)
 |0,_,_,_,_,_=>none
 |n1+1,v1,v2,v3,w1,v4=>
  br (g.lt 0 v4)
  (
   cl (iv g t (Cur.mk v1 v2 v3) a1) fun x4=>
   lP ([(Scan.mk x4.1.Thing x4.1.At x4.1.Kind x4.1.Place (Trip.mk x4.1.Trip.Leg x4.1.Trip.Day))]) fun(l2:List Scan)=>
   gd (((w1.length+l2.length)*56≤70368744177664))<|
   lP (w1++l2) fun(l3:List Scan)=>
   ed g t a1 n1 x4.2.b x4.2.i x4.2.h l3 (g.wrap .i64 (g.sub v4 1)))
  (
   some (v1,v2,v3,w1))
def kp (g:G) (t:TE) (a0:Cur) (a1:Network):Option ((List Scan)×Cur):=
 cl (iN g t a0 a1 1) fun x1=>
 cl (iN g t (Cur.mk x1.2.b x1.2.i x1.2.h) a1 2) fun x2=>
 gd (((x1.1.length+x2.1.length)*56≤70368744177664))<|
 lP (x1.1++x2.1) fun(l1:List Scan)=>
 cl (aF g t (Cur.mk x2.2.b x2.2.i x2.2.h) 4) fun x3=>
 cl (ed g t a1 1000000000 x3.2.b x3.2.i x3.2.h l1 x3.1) fun y1=>
 cl (aF g t (Cur.mk y1.1 y1.2.1 y1.2.2.1) 4) fun x5=>
 cl (dw g t 1000000000 x5.2.b x5.2.i x5.2.h y1.2.2.2 x5.1) fun y2=>
 some ((y2.2.2.2,(Cur.mk y2.1 y2.2.1 y2.2.2.1)))
theorem rG {g:G} {t:TE} {a0:Cur} {a1:Network} {r:(List Scan)×Cur} (hg:g=G.real) (ht:t=TE.real) (h:kp g t a0 a1=some r):FnM Tryz.prog 89 (.p (Cur.ds t a0)) [.g (Network.rs t a1)] (.c (.o 6 (t.d_Scan r.1))) (.p (Cur.ds t r.2)):=by
 obtain⟨X,hX⟩:=aC (.c (.o 6 (t.d_Scan r.1)):X);obtain⟨Y,hY⟩:=aC (.p (Cur.ds t r.2):AM);rw[←hX,←hY];refine eI (rvs:=rv89) (j:=ir89) Tryz.func89 rfl (by kernel_rfl) (nb rfl) (by kernel_rfl) af ?_;intro g2 F hg2 hF;obtain rfl:g2=g:=hg2.unique.trans hg.symm;clear hg2;obtain⟨wrap,lt,_,_,_,_,_,_,_,_,_,_,int,_,sub,_,_,_,_,_,_,_,_,_,dlen⟩:=g2;obtain⟨r_U8,_,_,d_Scan,r_Leg,_,r_I64⟩:=t
 obtain⟨a0_b,a0_i,a0_h⟩:=a0;obtain⟨a1_Legs,a1_Off,a1_Change⟩:=a1;unfold kp at h;try dsimp only at h
 cbv;obtain⟨x1,hx1,h⟩:=ae h;obtain⟨x1_1,⟨x1_2_b,x1_2_i,x1_2_h⟩⟩:=x1;try dsimp only at h
 refine ACallM.mk _ _ _ _ rfl rfl (hF _ _ _ (pZ hg ht hx1)) rfl (nb rfl) (nb rfl) ?_;cbv;obtain⟨x2,hx2,h⟩:=ae h;obtain⟨x2_1,⟨x2_2_b,x2_2_i,x2_2_h⟩⟩:=x2;try dsimp only at h
 refine ACallM.mk _ _ _ _ rfl rfl (hF _ _ _ (pZ hg ht hx2)) rfl (nb rfl) (nb rfl) ?_;cbv;obtain⟨hc11,h⟩:=ak h;refine AStep.mk ⟨(ou hg ht (ac hg ht _)),(au hg ht (ac hg ht _) (gH hg ht (ac hg ht _)) hc11)⟩ ?_;cbv;obtain⟨l1,hl1,h⟩:=ah h;try dsimp only at h
 refine ANew.mk (d_Scan l1) (dlen (d_Scan l1)) (by rw[←hl1];exact aR hg ht (ac hg ht _) (gH hg ht (ac hg ht _))) (by rw[←hl1];exact aJ hg ht (ac hg ht _) (gH hg ht (ac hg ht _))) ?_;cbv;obtain⟨x3,hx3,h⟩:=ae h;obtain⟨x3_1,⟨x3_2_b,x3_2_i,x3_2_h⟩⟩:=x3;try dsimp only at h
 refine ACallM.mk _ _ _ _ rfl rfl (hF _ _ _ (ay hg ht hx3)) rfl (nb rfl) (nb rfl) ?_;cbv;obtain⟨o1,ho1,h⟩:=ae h;try dsimp only at h
 try rw[hg] at ho1
 try rw[ht] at ho1
 refine ABL.mk {p:Nat×(List Int)×Int×Int×(List Scan)×Int//ed G.real TE.real (Network.mk a1_Legs a1_Off a1_Change) p.1 p.2.1 p.2.2.1 p.2.2.2.1 p.2.2.2.2.1 p.2.2.2.2.2=some o1} (fun⟨⟨n1,v1,v2,v3,w1,v4⟩,_⟩=>({sl:=[(0,.c (.p 3 3 0 0)),(3,.c (.p 0 3 0 0)),(5,.c (.f 1 6 0 (dlen (d_Scan w1)))),(6,.c (.r (.v (.int .i64 v4))))],tab:=[(0,some (.foc 3 [] [.r (.s 6 (r_Leg a1_Legs)),.r (.s 1 (r_I64 a1_Off)),.r (.v (.int .i64 a1_Change))] [])),(1,some (.arr 6 (d_Scan w1))),(3,some (.foc 3 [] [.r (.s 1 (r_U8 v1)),.r (.v (.int .i64 v2)),.r (.v (.int .i64 v3))] []))]}:St)) 4 (fun p=>p.1.1) ⟨(1000000000,x3_2_b,x3_2_i,x3_2_h,l1,x3_1),ho1⟩ ((List Int)×Int×Int×List Scan) (fun⟨y1_1,y1_2_1,y1_2_2_1,y1_2_2_2⟩=>({sl:=[(0,.c (.p 3 3 0 0)),(5,.c (.f 0 6 0 (dlen (d_Scan y1_2_2_2))))],tab:=[(0,some (.arr 6 (d_Scan y1_2_2_2))),(3,some (.foc 3 [] [.r (.s 1 (r_U8 y1_1)),.r (.v (.int .i64 y1_2_1)),.r (.v (.int .i64 y1_2_2_1))] []))]}:St)) 4 (fun y=>o1=y) ?_ ?_ ?_
 ·refine Wk.of [(0,some 4),(1,some 132),(3,some 3)] rfl rfl ?_ ?_
  ·cbv;all_goals exact⟨⟨_,rfl,rfl⟩,⟨_,rfl,rfl⟩,⟨_,rfl,rfl⟩,⟨_,rfl,rfl⟩,trivial⟩
  cbv;all_goals exact⟨⟨_,rfl,_,rfl,rfl,rfl,rfl,trivial⟩,⟨_,rfl,rfl⟩,⟨_,rfl,_,rfl,rfl,rfl,rfl,trivial⟩,trivial⟩
 ·rintro⟨⟨n1,v1,v2,v3,w1,v4⟩,h_1⟩ hq1;try dsimp only at h_1
  clear hq1;rcases n1 with _|n1
  ·rw[ed] at h_1;cases h_1
  rw[ed] at h_1;try rw[←hg] at h_1
  try rw[←ht] at h_1
  try dsimp only at h_1
  cbv
  cases hb1:(lt 0 v4)
  ·rw[aa hb1] at h_1;cbv;refine⟨(v1,v2,v3,w1),Wk.of [(0,some 1),(3,some 3)] rfl rfl ?_ ?_,(Option.some.inj h_1).symm⟩
   ·cbv;all_goals exact⟨⟨_,rfl,rfl⟩,⟨_,rfl,rfl⟩,trivial⟩
   cbv;all_goals exact⟨⟨_,rfl,rfl⟩,⟨_,rfl,_,rfl,rfl,rfl,rfl,trivial⟩,trivial⟩
  rw[ab hb1] at h_1;cbv;obtain⟨x4,hx4,h_1⟩:=ae h_1;obtain⟨⟨x4_1_Thing,x4_1_At,x4_1_Kind,x4_1_Place,⟨x4_1_Trip_Leg,x4_1_Trip_Day⟩⟩,⟨x4_2_b,x4_2_i,x4_2_h⟩⟩:=x4;try dsimp only at h_1
  refine ACallM.mk _ _ _ _ rfl rfl (hF _ _ _ (sY hg ht hx4)) rfl (nb rfl) (nb rfl) ?_;cbv;obtain⟨l2,hl2,h_1⟩:=ah h_1;try dsimp only at h_1
  refine ANew.mk (d_Scan l2) (dlen (d_Scan l2)) (by rw[←hl2];exact aG hg ht [(Scan.mk x4_1_Thing x4_1_At x4_1_Kind x4_1_Place (Trip.mk x4_1_Trip_Leg x4_1_Trip_Day))]) (by rw[←hl2];exact ax hg ht [(Scan.mk x4_1_Thing x4_1_At x4_1_Kind x4_1_Place (Trip.mk x4_1_Trip_Leg x4_1_Trip_Day))]) ?_;cbv;obtain⟨hc1,h_1⟩:=ak h_1;refine AStep.mk ⟨⟨rfl,(ac hg ht _)⟩,(au hg ht (ac hg ht _) rfl hc1)⟩ ?_;cbv;obtain⟨l3,hl3,h_1⟩:=ah h_1;try dsimp only at h_1
  refine ANew.mk (d_Scan l3) (dlen (d_Scan l3)) (by rw[←hl3];exact aR hg ht (ac hg ht _) rfl) (by rw[←hl3];exact aJ hg ht (ac hg ht _) rfl) ?_;cbv;try rw[hg] at h_1
  try rw[ht] at h_1
  refine⟨⟨(n1,x4_2_b,x4_2_i,x4_2_h,l3,(wrap .i64 (sub v4 1))),h_1⟩,Wk.of [(0,some 0),(1,some 116),(3,some 3)] rfl rfl ?_ ?_,Nat.lt_succ_self _⟩
  ·cbv;all_goals exact⟨⟨_,rfl,rfl⟩,⟨_,rfl,rfl⟩,⟨_,rfl,rfl⟩,⟨_,rfl,rfl⟩,trivial⟩
  cbv;all_goals exact⟨⟨_,rfl,_,rfl,rfl,rfl,rfl,trivial⟩,⟨_,rfl,rfl⟩,⟨_,rfl,_,rfl,rfl,rfl,rfl,trivial⟩,trivial⟩
 rintro⟨y1_1,y1_2_1,y1_2_2_1,y1_2_2_2⟩ hy1;replace hy1:=hy1.symm;subst hy1;try dsimp only[lr,lrL,lrp,aZ] at h
 cbv;obtain⟨x5,hx5,h⟩:=ae h;obtain⟨x5_1,⟨x5_2_b,x5_2_i,x5_2_h⟩⟩:=x5;try dsimp only at h
 refine ACallM.mk _ _ _ _ rfl rfl (hF _ _ _ (ay hg ht hx5)) rfl (nb rfl) (nb rfl) ?_;cbv;obtain⟨o2,ho2,h⟩:=ae h;try dsimp only at h
 try rw[hg] at ho2
 try rw[ht] at ho2
 refine ABL.mk {p:Nat×(List Int)×Int×Int×(List Scan)×Int//dw G.real TE.real p.1 p.2.1 p.2.2.1 p.2.2.2.1 p.2.2.2.2.1 p.2.2.2.2.2=some o2} (fun⟨⟨n2,v5,v6,v7,w2,v8⟩,_⟩=>({sl:=[(0,.c (.p 3 3 0 0)),(5,.c (.f 0 6 0 (dlen (d_Scan w2)))),(7,.c (.r (.v (.int .i64 v8))))],tab:=[(0,some (.arr 6 (d_Scan w2))),(3,some (.foc 3 [] [.r (.s 1 (r_U8 v5)),.r (.v (.int .i64 v6)),.r (.v (.int .i64 v7))] []))]}:St)) 4 (fun p=>p.1.1) ⟨(1000000000,x5_2_b,x5_2_i,x5_2_h,y1_2_2_2,x5_1),ho2⟩ ((List Int)×Int×Int×List Scan) (fun⟨y2_1,y2_2_1,y2_2_2_1,y2_2_2_2⟩=>({sl:=[(5,.c (.f 0 6 0 (dlen (d_Scan y2_2_2_2))))],tab:=[(0,some (.arr 6 (d_Scan y2_2_2_2))),(3,some (.foc 3 [] [.r (.s 1 (r_U8 y2_1)),.r (.v (.int .i64 y2_2_1)),.r (.v (.int .i64 y2_2_2_1))] []))]}:St)) 4 (fun y=>o2=y) ?_ ?_ ?_
 ·refine Wk.of [(0,some 0),(3,some 3)] rfl rfl ?_ ?_
  ·cbv;all_goals exact⟨⟨_,rfl,rfl⟩,⟨_,rfl,rfl⟩,⟨_,rfl,rfl⟩,trivial⟩
  cbv;all_goals exact⟨⟨_,rfl,rfl⟩,⟨_,rfl,_,rfl,rfl,rfl,rfl,trivial⟩,trivial⟩
 ·rintro⟨⟨n2,v5,v6,v7,w2,v8⟩,h_2⟩ hq2;try dsimp only at h_2
  clear hq2;rcases n2 with _|n2
  ·rw[dw] at h_2;cases h_2
  rw[dw] at h_2;try rw[←hg] at h_2
  try rw[←ht] at h_2
  try dsimp only at h_2
  cbv
  cases hb2:(lt 0 v8)
  ·rw[aa hb2] at h_2;cbv;iterate 3 try(rw[hb2];cbv)
   refine⟨(v5,v6,v7,w2),Wk.of [(0,some 0),(3,some 3)] rfl rfl ?_ ?_,(Option.some.inj h_2).symm⟩
   ·cbv;all_goals exact⟨⟨_,rfl,rfl⟩,trivial⟩
   cbv;all_goals exact⟨⟨_,rfl,rfl⟩,⟨_,rfl,_,rfl,rfl,rfl,rfl,trivial⟩,trivial⟩
  rw[ab hb2] at h_2;cbv;iterate 3 try(rw[hb2];cbv)
  cases hb3:(lt 1 (int (dlen (d_Scan w2))))
  ·rw[aa hb3] at h_2;cbv;refine⟨(v5,v6,v7,w2),Wk.of [(0,some 0),(3,some 3)] rfl rfl ?_ ?_,(Option.some.inj h_2).symm⟩
   ·cbv;all_goals exact⟨⟨_,rfl,rfl⟩,trivial⟩
   cbv;all_goals exact⟨⟨_,rfl,rfl⟩,⟨_,rfl,_,rfl,rfl,rfl,rfl,trivial⟩,trivial⟩
  rw[ab hb3] at h_2;cbv;obtain⟨x6,hx6,h_2⟩:=ae h_2;obtain⟨x6_1,⟨x6_2_b,x6_2_i,x6_2_h⟩⟩:=x6;try dsimp only at h_2
  refine ACallM.mk _ _ _ _ rfl rfl (hF _ _ _ (ay hg ht hx6)) rfl (nb rfl) (nb rfl) ?_;cbv;obtain⟨hc2,h_2⟩:=ak h_2;refine AStep.mk hc2 ?_;cbv;obtain⟨x7,hx7,h_2⟩:=aE h_2;obtain⟨x7_Thing,x7_At,x7_Kind,x7_Place,⟨x7_Trip_Leg,x7_Trip_Day⟩⟩:=x7;try dsimp only at h_2
  refine AGet.mk _ (aO hg ht hx7) ?_;cbv;obtain⟨l4,hl4,h_2⟩:=ah h_2;try dsimp only at h_2
  refine ANew.mk (d_Scan l4) (dlen (d_Scan l4)) (by rw[←hl4];exact aG hg ht []) (by rw[←hl4];exact ax hg ht []) ?_;cbv;obtain⟨hc3,h_2⟩:=ak h_2;refine AStep.mk hc3 ?_;cbv;obtain⟨hc9,h_2⟩:=ak h_2;obtain⟨hc10,h_2⟩:=ak h_2;refine AStep.mk ⟨(eX hg ht hc9),(au hg ht (ac hg ht _) (bF hg ht _ _ _) hc10)⟩ ?_;cbv;obtain⟨l5,hl5,h_2⟩:=ah h_2;try dsimp only at h_2
  refine ANew.mk (d_Scan l5) (dlen (d_Scan l5)) (by rw[←hl5];exact aR hg ht (ac hg ht _) (bF hg ht _ _ _)) (by rw[←hl5];exact aJ hg ht (ac hg ht _) (bF hg ht _ _ _)) ?_;cbv;obtain⟨hc4,h_2⟩:=ak h_2;refine AStep.mk hc4 ?_;cbv;obtain⟨hc7,h_2⟩:=ak h_2;obtain⟨hc8,h_2⟩:=ak h_2;refine AStep.mk ⟨(eX hg ht hc7),(au hg ht (ac hg ht _) (bF hg ht _ _ _) hc8)⟩ ?_;cbv;obtain⟨l6,hl6,h_2⟩:=ah h_2;try dsimp only at h_2
  refine ANew.mk (d_Scan l6) (dlen (d_Scan l6)) (by rw[←hl6];exact aR hg ht (ac hg ht _) (bF hg ht _ _ _)) (by rw[←hl6];exact aJ hg ht (ac hg ht _) (bF hg ht _ _ _)) ?_;cbv;obtain⟨l7,hl7,h_2⟩:=ah h_2;try dsimp only at h_2
  refine ANew.mk (d_Scan l7) (dlen (d_Scan l7)) (by rw[←hl7];exact aG hg ht [(Scan.mk x7_Thing x7_At x7_Kind x7_Place (Trip.mk x7_Trip_Leg x7_Trip_Day))]) (by rw[←hl7];exact ax hg ht [(Scan.mk x7_Thing x7_At x7_Kind x7_Place (Trip.mk x7_Trip_Leg x7_Trip_Day))]) ?_;cbv;obtain⟨hc6,h_2⟩:=ak h_2;refine AStep.mk ⟨⟨rfl,(ac hg ht _)⟩,(au hg ht (ac hg ht _) rfl hc6)⟩ ?_;cbv;obtain⟨l8,hl8,h_2⟩:=ah h_2;try dsimp only at h_2
  refine ANew.mk (d_Scan l8) (dlen (d_Scan l8)) (by rw[←hl8];exact aR hg ht (ac hg ht _) rfl) (by rw[←hl8];exact aJ hg ht (ac hg ht _) rfl) ?_;cbv;obtain⟨x8,hx8,h_2⟩:=ae h_2;obtain⟨x8_1,⟨x8_2_b,x8_2_i,x8_2_h⟩⟩:=x8;try dsimp only at h_2
  refine ACallM.mk _ _ _ _ rfl rfl (hF _ _ _ (bZ hg ht hx8)) rfl (nb rfl) (nb rfl) ?_;cbv;have hb4:x8_1=true∨x8_1=false:=by cases x8_1<;>simp
  rcases hb4 with hb4|hb4
  ·rw[ab hb4] at h_2;have hK_:=h_2;subst hb4;have h_2:=hK_;clear hK_;cbv;obtain⟨l9,hl9,h_2⟩:=ah h_2;try dsimp only at h_2
   refine ANew.mk (d_Scan l9) (dlen (d_Scan l9)) (by rw[←hl9];exact aG hg ht [(Scan.mk x7_Thing x7_At x7_Kind x7_Place (Trip.mk x7_Trip_Leg x7_Trip_Day))]) (by rw[←hl9];exact ax hg ht [(Scan.mk x7_Thing x7_At x7_Kind x7_Place (Trip.mk x7_Trip_Leg x7_Trip_Day))]) ?_;cbv;obtain⟨hc5,h_2⟩:=ak h_2;refine AStep.mk ⟨⟨rfl,(ac hg ht _)⟩,(au hg ht (ac hg ht _) rfl hc5)⟩ ?_;cbv;obtain⟨l10,hl10,h_2⟩:=ah h_2;try dsimp only at h_2
   refine ANew.mk (d_Scan l10) (dlen (d_Scan l10)) (by rw[←hl10];exact aR hg ht (ac hg ht _) rfl) (by rw[←hl10];exact aJ hg ht (ac hg ht _) rfl) ?_;cbv;try rw[hg] at h_2
   try rw[ht] at h_2
   refine⟨⟨(n2,x8_2_b,x8_2_i,x8_2_h,l10,(wrap .i64 (sub v8 1))),h_2⟩,Wk.of [(0,some 596),(3,some 3)] rfl rfl ?_ ?_,Nat.lt_succ_self _⟩
   ·cbv;all_goals exact⟨⟨_,rfl,rfl⟩,⟨_,rfl,rfl⟩,⟨_,rfl,rfl⟩,trivial⟩
   cbv;all_goals exact⟨⟨_,rfl,rfl⟩,⟨_,rfl,_,rfl,rfl,rfl,rfl,trivial⟩,trivial⟩
  rw[aa hb4] at h_2;have hK_:=h_2;subst hb4;have h_2:=hK_;clear hK_;cbv;try rw[hg] at h_2
  try rw[ht] at h_2
  refine⟨⟨(n2,x8_2_b,x8_2_i,x8_2_h,l8,(wrap .i64 (sub v8 1))),h_2⟩,Wk.of [(0,some 484),(3,some 3)] rfl rfl ?_ ?_,Nat.lt_succ_self _⟩
  ·cbv;all_goals exact⟨⟨_,rfl,rfl⟩,⟨_,rfl,rfl⟩,⟨_,rfl,rfl⟩,trivial⟩
  cbv;all_goals exact⟨⟨_,rfl,rfl⟩,⟨_,rfl,_,rfl,rfl,rfl,rfl,trivial⟩,trivial⟩
 rintro⟨y2_1,y2_2_1,y2_2_2_1,y2_2_2_2⟩ hy2;replace hy2:=hy2.symm;subst hy2;try dsimp only[lr,lrL,lrp,aZ] at h
 cbv;obtain rfl:=Option.some.inj h;exact ARetM.mk ⟨rfl,(ac hg ht _)⟩ hX.symm hY.symm
def ir34:J:=js [jq 2 (.alloc [.n 6,.n 1,.r (.v (.int .i64 0))]),jq 3 (.mv (.k (.c (.n 6)))),jm 4 (ki 0)] [0,2] (js [jm 7 0,jc 8 64 [7],jm 5 8] [2,5] (js [jm 9 5,jq 10 (.callm 88 false 9 []),jq 6 (.alloc [.n 6,.n 1,.r (.v (.int .i64 0))]),jp (.st 3 6 10)] [2,5,6] (.seq (.reg (some [[],[],[],[1,2],[],[1,2,3,4],[1,2,3,4,5],[0,1,2,3,4,5],[0,1,2,3,4,5,7],[0,1,2,3,4,5,6,7,8]]) [jl 11 3 6,jm 12 5,jl 13 3 6,jq 14 (.callm 89 false 12 [13]),jm 15 5,jq 16 (.callm 90 true 15 [(ki 3)]),jb 17 .add .i (ki 1) 16,jp (.st 3 2 11),jm 3 14,jm 4 17] [2,3,4]) .ret)))
def rv34:List RV:=[.c 2 true 3,.t 3,.t 4]
def eF (g:G) (t:TE) (a0:List Int):Option (Network×(List Scan)×Int):=
 lP (og g t a0) fun x1=>
 cl (mb g t x1) fun x2=>
 cl (kp g t (Cur.mk x2.2.b x2.2.i x2.2.h) (Network.mk x2.1.Legs x2.1.Off x2.1.Change)) fun x3=>
 cl (aF g t (Cur.mk x3.2.b x3.2.i x3.2.h) 3) fun x4=>
 some (((Network.mk x2.1.Legs x2.1.Off x2.1.Change),x3.1,(g.wrap .i64 (g.add 1 x4.1))))
theorem k8 {g:G} {t:TE} {a0:List Int} {r:Network×(List Scan)×Int} (hg:g=G.real) (ht:t=TE.real) (h:eF g t a0=some r):Fn Tryz.prog 34 [.c (.s 1 (t.r_U8 a0))] (.u [.g ((Network.rs t r.1).map .r),.c (.r (.s 6 (t.r_Scan r.2.1))),.c (.r (.v (.int .i64 r.2.2)))]):=by
 obtain⟨X,hX⟩:=aC (.u [.g ((Network.rs t r.1).map .r),.c (.r (.s 6 (t.r_Scan r.2.1))),.c (.r (.v (.int .i64 r.2.2)))]:X);rw[←hX];refine aA (rvs:=rv34) (j:=ir34) Tryz.func34 rfl (by kernel_rfl) (nb rfl) (by kernel_rfl) af ?_;intro g2 F hg2 hF;obtain rfl:g2=g:=hg2.unique.trans hg.symm;clear hg2;obtain⟨_,_,_,_,_,_,_,_,_,_,_,_,_,_,_,_,_,_,_,_,_,_,_,_,_,_,_,_,_,rda⟩:=g2;obtain⟨_,_,r_Scan,d_Scan,r_Leg,d_Leg,r_I64,d_I64⟩:=t
 have hrda_Scan:∀l,rda (d_Scan l)=r_Scan l:=lf hg ht;have hrda_Leg:∀l,rda (d_Leg l)=r_Leg l:=oA hg ht;have hrda_I64:∀l,rda (d_I64 l)=r_I64 l:=mc hg ht;unfold eF at h;try dsimp only at h
 cbv;obtain⟨x1,hx1,h⟩:=ah h;obtain⟨x1_b,x1_i,x1_h⟩:=x1;try dsimp only at h
 refine ACall.mk _ _ rfl (hF _ _ _ (tp hg ht hx1)) (.inl rfl) (nb rfl) ?_;cbv;obtain⟨x2,hx2,h⟩:=ae h;obtain⟨⟨x2_1_Legs,x2_1_Off,x2_1_Change⟩,⟨x2_2_b,x2_2_i,x2_2_h⟩⟩:=x2;try dsimp only at h
 refine ACallMR.mk _ _ _ _ (.g [.r (.s 6 (r_Leg x2_1_Legs)),.r (.s 1 (r_I64 x2_1_Off)),.r (.v (.int .i64 x2_1_Change))]) rfl rfl (hF _ _ _ (tL hg ht hx2)) rfl (nb rfl) (nb rfl) (by cbv;(try simp only[hrda_I64,hrda_Leg])) ?_;cbv;obtain⟨x3,hx3,h⟩:=ae h;obtain⟨x3_1,⟨x3_2_b,x3_2_i,x3_2_h⟩⟩:=x3;try dsimp only at h
 refine ACallMR.mk _ _ _ _ (.c (.r (.s 6 (r_Scan x3_1)))) rfl rfl (hF _ _ _ (rG hg ht hx3)) rfl (nb rfl) (nb rfl) (by cbv;(try simp only[hrda_Scan])) ?_;cbv;obtain⟨x4,hx4,h⟩:=ae h;obtain⟨x4_1,⟨x4_2_b,x4_2_i,x4_2_h⟩⟩:=x4;try dsimp only at h
 refine ACallM.mk _ _ _ _ rfl rfl (hF _ _ _ (ay hg ht hx4)) rfl (nb rfl) (nb rfl) ?_;cbv;obtain rfl:=Option.some.inj h;exact ARet.mk trivial hX.symm
def ir46:J:=js [jq 2 (.alloc [.n 6,.n 1,.r (.v (.int .i64 0))]),jq 3 (.mv (.k (.c (.n 6)))),jm 4 (ki 0)] [0,2] (js [jm 5 0,jc 6 34 [5],jq 7 (.ext 0 6),jq 8 (.ext 1 6),jq 9 (.ext 2 6),jp (.st 3 2 7),jm 3 8,jm 4 9] [2,3,4] .ret)
def rv46:List RV:=[.c 2 true 3,.t 3,.t 4]
def fy (g:G) (t:TE) (a0:List Int):Option (Network×(List Scan)×Int):=
 cl (eF g t a0) fun x1=>
 some (((Network.mk x1.1.Legs x1.1.Off x1.1.Change),x1.2.1,x1.2.2))
theorem qj {g:G} {t:TE} {a0:List Int} {r:Network×(List Scan)×Int} (hg:g=G.real) (ht:t=TE.real) (h:fy g t a0=some r):Fn Tryz.prog 46 [.c (.s 1 (t.r_U8 a0))] (.u [.g ((Network.rs t r.1).map .r),.c (.r (.s 6 (t.r_Scan r.2.1))),.c (.r (.v (.int .i64 r.2.2)))]):=by
 obtain⟨X,hX⟩:=aC (.u [.g ((Network.rs t r.1).map .r),.c (.r (.s 6 (t.r_Scan r.2.1))),.c (.r (.v (.int .i64 r.2.2)))]:X);rw[←hX];refine aA (rvs:=rv46) (j:=ir46) Tryz.func46 rfl (by kernel_rfl) (nb rfl) (by kernel_rfl) af ?_;intro g2 F hg2 hF;obtain rfl:g2=g:=hg2.unique.trans hg.symm;clear hg2;obtain⟨_⟩:=g2;obtain⟨_⟩:=t
 unfold fy at h;try dsimp only at h
 cbv;obtain⟨x1,hx1,h⟩:=ae h;obtain⟨⟨x1_1_Legs,x1_1_Off,x1_1_Change⟩,x1_2_1,x1_2_2⟩:=x1;try dsimp only at h
 refine ACall.mk _ _ rfl (hF _ _ _ (k8 hg ht hx1)) (.inl rfl) (nb rfl) ?_;cbv;obtain rfl:=Option.some.inj h;exact ARet.mk trivial hX.symm
def ir93 (s_k0:ByteArray):J:=js [jq 2 (.box 0),jq 3 (.box 1),jm 4 kf] [2,3] (.seq (js [jl 5 3 2,jc 6 113 [5],jq 7 (.not 6),jm 8 7,jv 9 8 (.fa 0 3),jv 10 8 (.ld false 1 9),jv 11 8 (.call 141 true [10,(ki 1),(ki 9999)]),jv 12 8 (.not 11),jq 13 (.pick 8 kt 12),jm 14 13,jv 15 14 (.fa 1 3),jv 16 14 (.ld false 1 15),jv 17 14 (.call 141 true [16,(ki 0),(ki 100000)]),jv 18 14 (.not 17),jq 19 (.pick 14 kt 18)] [2,3,19] (.cond 19 (js [jm 4 kf] [4] .ret) .skip)) (.seq (js [jf 20 2 3,jk 21 20] [2,3,21] (.block 0 (.seq (js [jb 23 .eql .i 21 (ki 1),jm 22 23] [2,3,21,22] (.cond 22 .skip (.reg none [jb 24 .eql .i 21 (ki 4),jm 22 24] [2,3,21,22]))) (.cond 22 (.seq (.reg (some [[],[0],[],[2],[0,1,2,3],[0,1,2,3,4],[0,1,2,3,4,5],[0,1,2,3,4,5,6],[0,1,2,3,4,5,6,7],[0,1,2,3,4,5,6],[0,1,2,3,4,5,6,7,8,9],[0,1,2,3,4,5,6,7,8,9,10],[0,1,2,3,4,5,6,7,8,9,10,11]]) [jl 25 3 2,jc 26 58 [25],jf 27 3 3,jk 28 27,jc 29 59 [26,28],jb 30 .geq .i 29 (ki 0),jm 31 30,ju 32 31 (.fa 4 3),ju 33 31 (.ld true 2 32),ju 34 31 (.bld [.r (.v (.int .i64 0)),.r (.v (.int .i64 0))] []),ju 35 31 (.eqs false [.i,.i] 33 34),jq 36 (.pick 31 35 kf),jm 4 36] [4]) .ret) (js [jb 38 .eql .i 21 (ki 3),jm 37 38] [2,3,21,37] (.cond 37 (.seq (.reg (some [[],[0],[0,1],[0,1,2],[0,1,2,3],[0,1,2,3],[0,1,2,3,5],[0,1,2,3,4,5,6],[0,1,2,3,4,5,6,7],[0,1,2,3,4,5,6,7,8],[0,1,2,3,4,5,6,7,8,9],[0,1,2,3,4,5,6,7,8,9,10],[0,1,2,3,4,5,6,7,8,9],[0,1,2,3,4,5,6,7,8,9],[0,1,2,3,4,5,6,7,8,9,13],[0,1,2,3,4,5,6,7,8,9,12,13,14],[0,1,2,3,4,5,6,7,8,9,10,11,12,13,14,15],[0,1,2,3,4,5,6,7,8,9,10,11,12,13,14,15,16],[0,1,2,3,4,5,6,7,8,9,10,11,12,13,14,15,16,17]]) [jf 39 3 3,jk 40 39,jq 41 (.bin .eql .s 40 (.k (.c (.r (.v (.string s_k0)))))),jm 42 41,ju 43 42 (.ld true 3 2),ju 44 42 (.fa 4 3),ju 45 42 (.ld true 2 44),ju 46 42 (.call 119 true [43,45]),jq 47 (.pick 42 46 kf),jm 48 47,ju 49 48 (.fa 1 3),ju 50 48 (.ld false 1 49),ju 51 48 (.ld true 3 2),ju 52 48 (.fa 4 3),ju 53 48 (.ld true 2 52),ju 54 48 (.call 120 true [51,53]),ju 55 48 (.bin .leq .i 50 54),jq 56 (.pick 48 55 kf),jm 4 56] [4]) .ret) (js [jb 58 .eql .i 21 (ki 2),jm 57 58] [2,3,57] (.cond 57 (.seq (.reg (some [[],[0],[0,1],[0,1,2],[0,1,2,3],[0,1,2,3],[0,1,2,3,5],[0,1,2,3,4,5,6],[0,1,2,3,4,5,6,7],[0,1,2,3,4,5,6,7,8],[0,1,2,3,4,5,6,7,8,9],[0,1,2,3,4,5,6,7,8,9,10],[0,1,2,3,4,5,6,7,8,9],[0,1,2,3,4,5,6,7,8,9],[0,1,2,3,4,5,6,7,8,9,13],[0,1,2,3,4,5,6,7,8,9,12,13,14],[0,1,2,3,4,5,6,7,8,9,10,11,12,13,14,15],[0,1,2,3,4,5,6,7,8,9,10,11,12,13,14,15,16],[0,1,2,3,4,5,6,7,8,9,10,11,12,13,14,15,16,17]]) [jf 59 3 3,jk 60 59,jq 61 (.bin
 .eql .s 60 (.k (.c (.r (.v (.string s_k0)))))),jm 62 61,ju 63 62 (.ld true 3 2),ju 64 62 (.fa 4 3),ju 65 62 (.ld true 2 64),ju 66 62 (.call 119 true [63,65]),jq 67 (.pick 62 66 kf),jm 68 67,ju 69 68 (.fa 1 3),ju 70 68 (.ld false 1 69),ju 71 68 (.ld true 3 2),ju 72 68 (.fa 4 3),ju 73 68 (.ld true 2 72),ju 74 68 (.call 118 true [71,73]),ju 75 68 (.bin .geq .i 70 74),jq 76 (.pick 68 75 kf),jm 4 76] [4]) .ret) .skip)))))))) (js [jm 4 kf] [4] .ret)))
def rv93:List RV:=[.t 4]
def fF (g:G) (t:TE) (a0:Network) (a1:Scan):Option Bool:=
 cl (da g t a0) fun x1=>
 br x1
 (
  lP (fO g t a1.Thing 1 9999) fun x2=>
  br x2
  (
   lP (fO g t a1.At 0 100000) fun x3=>
   br x3
   (
    br (g.eq a1.Kind 1)
    (
     cl (dO g t a0) fun x4=>
     lP (cL g t x4 a1.Place) fun x5=>
     br (g.le 0 x5)
     (
      some (g.all [(g.eq a1.Trip.Leg 0),(g.eq a1.Trip.Day 0)]))
     (
      some false))
    (
     br (g.eq a1.Kind 4)
     (
      cl (dO g t a0) fun x6=>
      lP (cL g t x6 a1.Place) fun x7=>
      br (g.le 0 x7)
      (
       some (g.all [(g.eq a1.Trip.Leg 0),(g.eq a1.Trip.Day 0)]))
      (
       some false))
     (
      br (g.eq a1.Kind 3)
      (
       br (g.seq a1.Place str_k0)
       (
        cl (fC g t a0 (Trip.mk a1.Trip.Leg a1.Trip.Day)) fun x8=>
        br x8
        (
         cl (cM g t a0 (Trip.mk a1.Trip.Leg a1.Trip.Day)) fun x9=>
         some (g.le a1.At x9))
        (
         some false))
       (
        some false))
      (
       br (g.eq a1.Kind 2)
       (
        br (g.seq a1.Place str_k0)
        (
         cl (fC g t a0 (Trip.mk a1.Trip.Leg a1.Trip.Day)) fun x10=>
         br x10
         (
          cl (eC g t a0 (Trip.mk a1.Trip.Leg a1.Trip.Day)) fun x11=>
          some (g.le x11 a1.At))
         (
          some false))
        (
         some false))
       (
        some false)))))
   (
    some false))
  (
   some false))
 (
  some false)
theorem gI {g:G} {t:TE} {a0:Network} {a1:Scan} {r:Bool} (hg:g=G.real) (ht:t=TE.real) (h:fF g t a0 a1=some r):Fn Tryz.prog 93 [.g (Network.rs t a0),.g (Scan.rs t a1)] (.c (.r (.v (.bool r)))):=by
 obtain⟨X,hX⟩:=aC (.c (.r (.v (.bool r))):X);rw[←hX];refine aA (rvs:=rv93) (j:=(ir93 str_k0)) Tryz.func93 rfl (by kernel_rfl) (nb rfl) (by kernel_rfl) af ?_;intro g2 F hg2 hF;obtain rfl:g2=g:=hg2.unique.trans hg.symm;clear hg2;obtain⟨_,_,le,eq,_,_,_,_,_,_,_,_,_,_,_,_,_,seq,_,_,_,_,_,_,dlen,_,_,_,rd⟩:=g2;obtain⟨_,_,_,_,_,_,_,_,_,_,_,_,r_S,d_S⟩:=t
 obtain⟨a0_Legs,a0_Off,a0_Change⟩:=a0;obtain⟨a1_Thing,a1_At,a1_Kind,a1_Place,⟨a1_Trip_Leg,a1_Trip_Day⟩⟩:=a1;unfold fF at h;try dsimp only at h
 obtain⟨s_k0,hs_k0⟩:∃s,str_k0=s:=⟨_,rfl⟩;try rw[hs_k0] at h
 rw[hs_k0];cbv;obtain⟨x1,hx1,h⟩:=ae h;try dsimp only at h
 refine ACall.mk _ _ rfl (hF _ _ _ (g7 hg ht hx1)) (.inl rfl) (nb rfl) ?_;cbv
 cases hb1:x1
 ·rw[aa hb1] at h;cbv;iterate 4 try(rw[hb1];cbv)
  obtain rfl:=Option.some.inj h;exact ARet.mk trivial hX.symm
 rw[ab hb1] at h;cbv;iterate 2 try(rw[hb1];cbv)
 obtain⟨x2,hx2,h⟩:=ah h;try dsimp only at h
 refine ACall.mk _ _ rfl (hF _ _ _ (eS hg ht hx2)) (.inl rfl) (nb rfl) ?_;cbv;iterate 2 try(rw[hb1];cbv)
 cases hb2:x2
 ·rw[aa hb2] at h;cbv;iterate 4 try(rw[hb2];cbv)
  obtain rfl:=Option.some.inj h;exact ARet.mk trivial hX.symm
 rw[ab hb2] at h;cbv;iterate 2 try(rw[hb2];cbv)
 obtain⟨x3,hx3,h⟩:=ah h;try dsimp only at h
 refine ACall.mk _ _ rfl (hF _ _ _ (eS hg ht hx3)) (.inl rfl) (nb rfl) ?_;cbv;iterate 2 try(rw[hb2];cbv)
 cases hb3:x3
 ·rw[aa hb3] at h;cbv;obtain rfl:=Option.some.inj h;exact ARet.mk trivial hX.symm
 rw[ab hb3] at h;cbv
 cases hb4:(eq a1_Kind 1)
 rotate_left
 ·rw[ab hb4] at h;cbv;try(rw[hb4];cbv)
  obtain⟨x4,hx4,h⟩:=ae h;try dsimp only at h
  refine ACall.mk _ _ rfl (hF _ _ _ (fg hg ht hx4)) (.inl rfl) (nb rfl) ?_;cbv;refine AStep.mk (fv ht (ar hg ht _)) ?_;cbv;obtain⟨x5,hx5,h⟩:=ah h;try dsimp only at h
  refine ACall.mk _ _ (by rw[show rd (d_S x4) 0 (dlen (d_S x4))=r_S x4 from iC hg ht (ar hg ht _)];try rfl) (hF _ _ _ (c5 hg ht hx5)) (.inr rfl) (nb rfl) ?_
  cbv
  cases hb5:(le 0 x5)
  rotate_left
  ·rw[ab hb5] at h;cbv;iterate 4 try(rw[hb5];cbv)
   obtain rfl:=Option.some.inj h;exact ARet.mk trivial hX.symm
  rw[aa hb5] at h;cbv;iterate 4 try(rw[hb5];cbv)
  obtain rfl:=Option.some.inj h;exact ARet.mk trivial hX.symm
 rw[aa hb4] at h;cbv
 cases hb6:(eq a1_Kind 4)
 rotate_left
 ·rw[ab hb6] at h;cbv;obtain⟨x6,hx6,h⟩:=ae h;try dsimp only at h
  refine ACall.mk _ _ rfl (hF _ _ _ (fg hg ht hx6)) (.inl rfl) (nb rfl) ?_;cbv;refine AStep.mk (fv ht (ar hg ht _)) ?_;cbv;obtain⟨x7,hx7,h⟩:=ah h;try dsimp only at h
  refine ACall.mk _ _ (by rw[show rd (d_S x6) 0 (dlen (d_S x6))=r_S x6 from iC hg ht (ar hg ht _)];try rfl) (hF _ _ _ (c5 hg ht hx7)) (.inr rfl) (nb rfl) ?_
  cbv
  cases hb7:(le 0 x7)
  rotate_left
  ·rw[ab hb7] at h;cbv;iterate 4 try(rw[hb7];cbv)
   obtain rfl:=Option.some.inj h;exact ARet.mk trivial hX.symm
  rw[aa hb7] at h;cbv;iterate 4 try(rw[hb7];cbv)
  obtain rfl:=Option.some.inj h;exact ARet.mk trivial hX.symm
 rw[aa hb6] at h;cbv
 cases hb8:(eq a1_Kind 3)
 rotate_left
 ·rw[ab hb8] at h;cbv
  cases hb9:(seq a1_Place s_k0)
  ·rw[aa hb9] at h;cbv;iterate 4 try(rw[hb9];cbv)
   obtain rfl:=Option.some.inj h;exact ARet.mk trivial hX.symm
  rw[ab hb9] at h;cbv;iterate 3 try(rw[hb9];cbv)
  obtain⟨x8,hx8,h⟩:=ae h;try dsimp only at h
  refine ACall.mk _ _ rfl (hF _ _ _ (iS hg ht hx8)) (.inl rfl) (nb rfl) ?_;cbv;try(rw[hb9];cbv)
  cases hb10:x8
  ·rw[aa hb10] at h;cbv;iterate 7 try(rw[hb10];cbv)
   obtain rfl:=Option.some.inj h;exact ARet.mk trivial hX.symm
  rw[ab hb10] at h;cbv;iterate 5 try(rw[hb10];cbv)
  obtain⟨x9,hx9,h⟩:=ae h;try dsimp only at h
  refine ACall.mk _ _ rfl (hF _ _ _ (fj hg ht hx9)) (.inl rfl) (nb rfl) ?_;cbv;iterate 2 try(rw[hb10];cbv)
  obtain rfl:=Option.some.inj h;exact ARet.mk trivial hX.symm
 rw[aa hb8] at h;cbv
 cases hb11:(eq a1_Kind 2)
 ·rw[aa hb11] at h;cbv;obtain rfl:=Option.some.inj h;exact ARet.mk trivial hX.symm
 rw[ab hb11] at h;cbv
 cases hb12:(seq a1_Place s_k0)
 ·rw[aa hb12] at h;cbv;iterate 4 try(rw[hb12];cbv)
  obtain rfl:=Option.some.inj h;exact ARet.mk trivial hX.symm
 rw[ab hb12] at h;cbv;iterate 3 try(rw[hb12];cbv)
 obtain⟨x10,hx10,h⟩:=ae h;try dsimp only at h
 refine ACall.mk _ _ rfl (hF _ _ _ (iS hg ht hx10)) (.inl rfl) (nb rfl) ?_;cbv;try(rw[hb12];cbv)
 cases hb13:x10
 ·rw[aa hb13] at h;cbv;iterate 7 try(rw[hb13];cbv)
  obtain rfl:=Option.some.inj h;exact ARet.mk trivial hX.symm
 rw[ab hb13] at h;cbv;iterate 5 try(rw[hb13];cbv)
 obtain⟨x11,hx11,h⟩:=ae h;try dsimp only at h
 refine ACall.mk _ _ rfl (hF _ _ _ (gU hg ht hx11)) (.inl rfl) (nb rfl) ?_;cbv;iterate 2 try(rw[hb13];cbv)
 obtain rfl:=Option.some.inj h;exact ARet.mk trivial hX.symm
def ir36:J:=js [jq 2 (.box 0),jq 4 (.mv (.k (.c (.n 6))))] [1,2] (js [jq 8 (.bsl 6 []),jm 5 8] [1,2,5] (.seq (js [jm 6 (ki 0)] [1,2,5,6] (.bl 0 (.seq (js [jm 9 6,jm 10 1,jq 11 (.len false 10),jb 12 .lss .i 9 11,jm 13 12,ju 14 13 (.mv 6),ju 15 13 (.bin .lss .i 14 (ki 200)),jq 16 (.pick 13 15 kf)] [1,2,5,6,16] (.cond 16 .skip (.exit 0))) (.seq (.block 1 (.seq (.seq (.reg (some [[],[],[],[1,2],[1,2,3],[0,1,2,3,4],[0,1,2,3,4,5]]) [jl 19 3 2,jm 20 1,jm 21 6,ja 22 6 20 21,jl 23 6 22,jc 24 93 [19,23],jq 25 (.not 24)] [1,2,5,6,25]) (.cond 25 (.exit 1) .skip)) (js [jm 7 (ki 0)] [1,2,5,6,7] (.seq (.bl 2 (.seq (.seq (.reg (some [[],[],[1],[0,1,2],[0,1,2,3],[0,1,2,3,4],[0,1,2,3,4],[0,1,2,3,4,5,6],[0,1,2,3,4,5,6,7],[0,1,2,3,4],[0,1,2,3,4],[0,1,2,3,4,9,10],[0,1,2,3,4,9,10,11],[0,1,2,3,4,5,6,7,8,9,10,11,12],[0,1,2,3,4,5,6,7,8,9,10,11,12,13],[0,1,2,3,4,5,6,7,8,9,10,11,12,13,14]]) [jm 26 7,jm 27 5,jq 28 (.len false 27),jb 29 .lss .i 26 28,jm 30 29,ju 31 30 (.mv 5),ju 32 30 (.mv 7),ju 33 30 (.ia 6 31 32),ju 34 30 (.ld true 6 33),ju 35 30 (.mv 1),ju 36 30 (.mv 6),ju 37 30 (.ia 6 35 36),ju 38 30 (.ld true 6 37),ju 39 30 (.call 94 true [34,38]),ju 40 30 (.bin .lss .i 39 (ki 0)),jq 41 (.pick 30 40 kf)] [1,2,5,6,7,41]) (.cond 41 .skip (.exit 2))) (.block 3 (.reg none [jm 42 7,jb 43 .add .i 42 (ki 1),jm 7 43] [1,2,5,6,7])))) (.seq (.reg (some [[],[],[1],[0,1,2],[0,1,2,3],[0,1,2,3,4],[0,1,2,3,4],[0,1,2,3,4,5,6],[0,1,2,3,4,5,6,7],[0,1,2,3,4],[0,1,2,3,4],[0,1,2,3,4,9,10],[0,1,2,3,4,9,10,11],[0,1,2,3,4,5,6,7,8,9,10,11,12],[0,1,2,3,4,5,6,7,8,9,10,11,12,13]]) [jm 44 7,jm 45 5,jq 46 (.len false 45),jb 47 .eql .i 44 46,jm 48 47,jv 49 48 (.mv 5),jv 50 48 (.mv 7),jv 51 48 (.ia 6 49 50),jv 52 48 (.ld true 6 51),jv 53 48 (.mv 1),jv 54 48 (.mv 6),jv 55 48 (.ia 6 53 54),jv 56 48 (.ld true 6 55),jv 57 48 (.eqs true [.i,.i,.i,.s,.i,.i] 52 56),jq 58 (.pick 48 kt 57)] [1,2,5,6,7,58]) (.cond 58 (.reg (some [[],[],[],[1,2],[0,1,2,3],[],[],[5,6],[5,6,7],[5,6,7,8],[0,1,2,3,4,5,6,7,8,9],[],[],[11,12],[0,1,2,3,4,5,6,7,8,9,10,11,12,13],[0,1,2,3,4,5,6,7,8,9,10,11,12,13,14]]) [jq 59 (.bsl 6 []),jm 60 5,jm 61 7,jq 62 (.sl 6 60 none (some 61)),jq 63 (.app 6 56 false 59 62),jm 64 1,jm 65 6,ja 66 6 64 65,jl 67 6 66,jq 68 (.bsl 6 [67]),jq 69 (.app 6 56 true 63 68),jm 70 5,jm 71 7,jq 72 (.sl 6 70 (some 71) none),jq 73 (.app 6 56 false 69 72),jm 5 73] [1,2,5,6]) .skip)))))) (.reg none [jm 17 6,jb 18 .add .i 17 (ki 1),jm 6 18] [1,2,5,6]))))) (js [jm 74 5,jm 4 74] [4] .ret)))
def rv36:List RV:=[.t 4]
def cg (g:G) (t:TE) (w1:List Scan) (z1:Scan):Nat→Int→Option Int
 |0,v2=>
  some v2
 |n2+1,v2=>
  gt w1 (g.nat v2) fun x2=>
  cl (de g t (Scan.mk x2.Thing x2.At x2.Kind x2.Place (Trip.mk x2.Trip.Leg x2.Trip.Day)) (Scan.mk z1.Thing z1.At z1.Kind z1.Place (Trip.mk z1.Trip.Leg z1.Trip.Day))) fun x3=>
  br (g.lt x3 0)
  (
   cg g t w1 z1 n2 (g.wrap .i64 (g.add v2 1)))
  (
   some v2)
def bu (g:G) (t:TE) (a0:Network):List Scan→Int→List Scan→Option (List Scan)
 |[],v1,w1=>
  some w1
 |z1::ls1,v1,w1=>
  br (g.lt v1 200)
  (
   cl (fF g t a0 (Scan.mk z1.Thing z1.At z1.Kind z1.Place (Trip.mk z1.Trip.Leg z1.Trip.Day))) fun x1=>
   br x1
   (
    gd (((g.int (g.dlen (t.d_Scan w1)))≤9223372036854775807))<|
    cl (cg g t w1 z1 (ap 0 (g.int (g.dlen (t.d_Scan w1)))) 0) fun y1=>
    br (g.eq y1 (g.int (g.dlen (t.d_Scan w1))))
    (
     lP ([]) fun(l2:List Scan)=>
     gd (((0:Int)≤0∧0≤y1∧y1≤(((g.dlen (t.d_Scan w1)):Nat):Int)))<|
     gd (((g.nat 0)+(g.nsub (g.nat y1) (g.nat 0))≤w1.length))<|
     gd (((l2.length+(List.take (g.nsub (g.nat y1) (g.nat 0)) (List.drop (g.nat 0) w1)).length)*56≤70368744177664))<|
     lP (l2++(List.take (g.nsub (g.nat y1) (g.nat 0)) (List.drop (g.nat 0) w1))) fun(l3:List Scan)=>
     lP ([(Scan.mk z1.Thing z1.At z1.Kind z1.Place (Trip.mk z1.Trip.Leg z1.Trip.Day))]) fun(l4:List Scan)=>
     gd (((l3.length+l4.length)*56≤70368744177664))<|
     lP (l3++l4) fun(l5:List Scan)=>
     gd (((0:Int)≤y1∧y1≤(g.int (g.dlen (t.d_Scan w1)))∧(g.int (g.dlen (t.d_Scan w1)))≤(((g.dlen (t.d_Scan w1)):Nat):Int)))<|
     gd (((g.nat y1)+(g.nsub (g.nat (g.int (g.dlen (t.d_Scan w1)))) (g.nat y1))≤w1.length))<|
     gd (((l5.length+(List.take (g.nsub (g.nat (g.int (g.dlen (t.d_Scan w1)))) (g.nat y1)) (List.drop (g.nat y1) w1)).length)*56≤70368744177664))<|
     lP (l5++(List.take (g.nsub (g.nat (g.int (g.dlen (t.d_Scan w1)))) (g.nat y1)) (List.drop (g.nat y1) w1))) fun(l6:List Scan)=>
     bu g t a0 ls1 (g.wrap .i64 (g.add v1 1)) l6)
    (
     gd (((0:Int)≤y1∧y1<(((g.dlen (t.d_Scan w1)):Nat):Int)))<|
     gt w1 (g.nat y1) fun x4=>
     br (g.all [(g.eq x4.Thing z1.Thing),(g.eq x4.At z1.At),(g.eq x4.Kind z1.Kind),(g.seq x4.Place z1.Place),(g.eq x4.Trip.Leg z1.Trip.Leg),(g.eq x4.Trip.Day z1.Trip.Day)])
     (
      bu g t a0 ls1 (g.wrap .i64 (g.add v1 1)) w1)
     (
      lP ([]) fun(l7:List Scan)=>
      gd (((0:Int)≤0∧0≤y1∧y1≤(((g.dlen (t.d_Scan w1)):Nat):Int)))<|
      gd (((g.nat 0)+(g.nsub (g.nat y1) (g.nat 0))≤w1.length))<|
      gd (((l7.length+(List.take (g.nsub (g.nat y1) (g.nat 0)) (List.drop (g.nat 0) w1)).length)*56≤70368744177664))<|
      lP (l7++(List.take (g.nsub (g.nat y1) (g.nat 0)) (List.drop (g.nat 0) w1))) fun(l8:List Scan)=>
      lP ([(Scan.mk z1.Thing z1.At z1.Kind z1.Place (Trip.mk z1.Trip.Leg z1.Trip.Day))]) fun(l9:List Scan)=>
      gd (((l8.length+l9.length)*56≤70368744177664))<|
      lP (l8++l9) fun(l10:List Scan)=>
      gd (((0:Int)≤y1∧y1≤(g.int (g.dlen (t.d_Scan w1)))∧(g.int (g.dlen (t.d_Scan w1)))≤(((g.dlen (t.d_Scan w1)):Nat):Int)))<|
      gd (((g.nat y1)+(g.nsub (g.nat (g.int (g.dlen (t.d_Scan w1)))) (g.nat y1))≤w1.length))<|
      gd (((l10.length+(List.take (g.nsub (g.nat (g.int (g.dlen (t.d_Scan w1)))) (g.nat y1)) (List.drop (g.nat y1) w1)).length)*56≤70368744177664))<|
      lP (l10++(List.take (g.nsub (g.nat (g.int (g.dlen (t.d_Scan w1)))) (g.nat y1)) (List.drop (g.nat y1) w1))) fun(l11:List Scan)=>
      bu g t a0 ls1 (g.wrap .i64 (g.add v1 1)) l11)))
   (
    bu g t a0 ls1 (g.wrap .i64 (g.add v1 1)) w1))
  (
   some w1)
def fZ (g:G) (t:TE) (a0:Network) (a1:List Scan):Option (List Scan):=
 lP ([]) fun(l1:List Scan)=>
 cl (bu g t a0 a1 0 l1) fun y2=>
 some y2
theorem mD {g:G} {t:TE} {a0:Network} {a1:List Scan} {r:List Scan} (hg:g=G.real) (ht:t=TE.real) (h:fZ g t a0 a1=some r):Fn Tryz.prog 36 [.g (Network.rs t a0),.c (.s 6 (t.r_Scan a1))] (.c (.o 6 (t.d_Scan r))):=by
 obtain⟨X,hX⟩:=aC (.c (.o 6 (t.d_Scan r)):X);rw[←hX];refine aA (rvs:=rv36) (j:=ir36) Tryz.func36 rfl (by kernel_rfl) (nb rfl) (by kernel_rfl) af ?_;intro g2 F hg2 hF;obtain rfl:g2=g:=hg2.unique.trans hg.symm;clear hg2;obtain⟨wrap,lt,_,eq,_,_,_,_,_,_,_,_,int,add,_,_,_,seq,_,_,_,llen,_,_,dlen,_,_,_,_,_,_,_,_,all⟩:=g2;obtain⟨_,_,r_Scan,d_Scan,r_Leg,_,r_I64⟩:=t
 obtain⟨a0_Legs,a0_Off,a0_Change⟩:=a0;unfold fZ at h;try dsimp only at h
 cbv;obtain⟨l1,hl1,h⟩:=ah h;try dsimp only at h
 refine ANew.mk (d_Scan l1) (dlen (d_Scan l1)) (by rw[←hl1];exact aG hg ht []) (by rw[←hl1];exact ax hg ht []) ?_;cbv;obtain⟨o1,ho1,h⟩:=ae h;try dsimp only at h
 try rw[hg] at ho1
 try rw[ht] at ho1
 refine ABL.mk {p:Nat×Int×List Scan//p.1≤a1.length∧p.2.1=((p.1:Nat):Int)∧bu G.real TE.real (Network.mk a0_Legs a0_Off a0_Change) (List.drop p.1 a1) p.2.1 p.2.2=some o1} (fun⟨⟨k1,v1,w1⟩,_⟩=>({sl:=[(1,.c (.r (.s 6 (r_Scan a1)))),(2,.c (.p 0 3 0 0)),(5,.c (.f 1 6 0 (dlen (d_Scan w1)))),(6,.c (.r (.v (.int .i64 v1))))],tab:=[(0,some (.foc 3 [] [.r (.s 6 (r_Leg a0_Legs)),.r (.s 1 (r_I64 a0_Off)),.r (.v (.int .i64 a0_Change))] [])),(1,some (.arr 6 (d_Scan w1)))]}:St)) 2 (fun p=>a1.length-p.1.1) ⟨(0,0,l1),Nat.zero_le _,rfl,ho1⟩ (List Scan) (fun y2=>({sl:=[(5,.c (.f 0 6 0 (dlen (d_Scan y2))))],tab:=[(0,some (.arr 6 (d_Scan y2)))]}:St)) 1 (fun y=>o1=y) ?_ ?_ ?_
 ·refine Wk.of [(0,some 0),(1,some 32)] rfl rfl ?_ ?_
  ·cbv;all_goals exact⟨⟨_,rfl,rfl⟩,⟨_,rfl,rfl⟩,⟨_,rfl,rfl⟩,⟨_,rfl,rfl⟩,trivial⟩
  cbv;all_goals exact⟨⟨_,rfl,_,rfl,rfl,rfl,rfl,trivial⟩,⟨_,rfl,rfl⟩,trivial⟩
 ·rintro⟨⟨k1,v1,w1⟩,hk1,hi1,h_1⟩ hq1;have hm1:=(hq1.1 1 _ _ rfl);try dsimp only at hk1 hi1 h_1
  clear hq1;cbv
  by_cases hc1_:k1<a1.length
  ·have hb1:lt v1 (llen (r_Scan a1))=true:=jK hg ht hi1 hc1_;have hs1:=nr hg ht hi1 hc1_ hm1;obtain⟨z1,hz1⟩:=aX hc1_;rw[aH hz1] at h_1;rw[bu] at h_1;obtain⟨z1_Thing,z1_At,z1_Kind,z1_Place,⟨z1_Trip_Leg,z1_Trip_Day⟩⟩:=z1;try rw[←hg] at h_1
   try rw[←ht] at h_1
   try dsimp only at h_1
   rw[hb1];cbv;iterate 2 try(rw[hb1];cbv)
   cases hb2:(lt v1 200)
   ·rw[aa hb2] at h_1;cbv;refine⟨w1,Wk.of [(0,some 1)] rfl rfl ?_ ?_,(Option.some.inj h_1).symm⟩
    ·cbv;all_goals exact⟨⟨_,rfl,rfl⟩,trivial⟩
    cbv;all_goals exact⟨⟨_,rfl,rfl⟩,trivial⟩
   rw[ab hb2] at h_1;cbv;refine AStep.mk (fP hi1) ?_;cbv;refine AGet.mk _ (eV hg ht hi1 hz1) ?_;cbv;obtain⟨x1,hx1,h_1⟩:=ae h_1;try dsimp only at h_1
   refine ACall.mk _ _ rfl (hF _ _ _ (gI hg ht hx1)) (.inl rfl) (nb rfl) ?_;cbv
   cases hb3:x1
   ·rw[aa hb3] at h_1;cbv;try rw[hg] at h_1
    try rw[ht] at h_1
    refine⟨⟨(k1+1,(wrap .i64 (add v1 1)),w1),hc1_,hs1,h_1⟩,Wk.of [(0,some 0),(1,some 1)] rfl rfl ?_ ?_,bc hc1_⟩
    ·cbv;all_goals exact⟨⟨_,rfl,rfl⟩,⟨_,rfl,rfl⟩,⟨_,rfl,rfl⟩,⟨_,rfl,rfl⟩,trivial⟩
    cbv;all_goals exact⟨⟨_,rfl,_,rfl,rfl,rfl,rfl,trivial⟩,⟨_,rfl,rfl⟩,trivial⟩
   rw[ab hb3] at h_1;cbv;obtain⟨hB2,h_1⟩:=ak h_1;obtain⟨o2,ho2,h_1⟩:=ae h_1;try dsimp only at h_1
   try rw[hg] at ho2
   try rw[ht] at ho2
   refine ABL.mk {p:Nat×Int//p.1=ap p.2 (int (dlen (d_Scan w1)))∧0≤p.2∧cg G.real TE.real w1 (Scan.mk z1_Thing z1_At z1_Kind z1_Place (Trip.mk z1_Trip_Leg z1_Trip_Day)) p.1 p.2=some o2} (fun⟨⟨n2,v2⟩,_⟩=>({sl:=[(1,.c (.r (.s 6 (r_Scan a1)))),(2,.c (.p 0 3 0 0)),(5,.c (.f 1 6 0 (dlen (d_Scan w1)))),(6,.c (.r (.v (.int .i64 v1)))),(7,.c (.r (.v (.int .i64 v2))))],tab:=[(0,some (.foc 3 [] [.r (.s 6 (r_Leg a0_Legs)),.r (.s 1 (r_I64 a0_Off)),.r (.v (.int .i64 a0_Change))] [])),(1,some (.arr 6 (d_Scan w1)))]}:St)) 2 (fun p=>p.1.1) ⟨(ap 0 (int (dlen (d_Scan w1))),0),rfl,Int.le_refl _,ho2⟩ (Int) (fun y1=>({sl:=[(1,.c (.r (.s 6 (r_Scan a1)))),(2,.c (.p 0 3 0 0)),(5,.c (.f 1 6 0 (dlen (d_Scan w1)))),(6,.c (.r (.v (.int .i64 v1)))),(7,.c (.r (.v (.int .i64 y1))))],tab:=[(0,some (.foc 3 [] [.r (.s 6 (r_Leg a0_Legs)),.r (.s 1 (r_I64 a0_Off)),.r (.v (.int .i64 a0_Change))] [])),(1,some (.arr 6 (d_Scan w1)))]}:St)) 2 (fun y=>o2=y) ?_ ?_ ?_
   ·refine Wk.of [(0,some 0),(1,some 1)] rfl rfl ?_ ?_
    ·cbv;all_goals exact⟨⟨_,rfl,rfl⟩,⟨_,rfl,rfl⟩,⟨_,rfl,rfl⟩,⟨_,rfl,rfl⟩,⟨_,rfl,rfl⟩,trivial⟩
    cbv;all_goals exact⟨⟨_,rfl,_,rfl,rfl,rfl,rfl,trivial⟩,⟨_,rfl,rfl⟩,trivial⟩
   ·rintro⟨⟨n2,v2⟩,hn2,hi2,h_2⟩ hq2;try dsimp only at hn2 hi2 h_2
    clear hq2;cbv;rcases n2 with _|n2
    ·have hb4:lt v2 (int (dlen (d_Scan w1)))=false:=ba hg hn2;rw[cg] at h_2;try rw[←hg] at h_2
     try rw[←ht] at h_2
     try dsimp only at h_2
     rw[hb4];cbv;iterate 10 try(rw[hb4];cbv)
     refine⟨v2,Wk.of [(0,some 0),(1,some 1)] rfl rfl ?_ ?_,(Option.some.inj h_2).symm⟩
     ·cbv;all_goals exact⟨⟨_,rfl,rfl⟩,⟨_,rfl,rfl⟩,⟨_,rfl,rfl⟩,⟨_,rfl,rfl⟩,⟨_,rfl,rfl⟩,trivial⟩
     cbv;all_goals exact⟨⟨_,rfl,_,rfl,rfl,rfl,rfl,trivial⟩,⟨_,rfl,rfl⟩,trivial⟩
    have hb4:lt v2 (int (dlen (d_Scan w1)))=true:=bt hg hn2;have hl2:=cR hn2;have hs2:=bS hg hn2 hi2 hB2 (by decide);rw[cg] at h_2;try rw[←hg] at h_2
    try rw[←ht] at h_2
    try dsimp only at h_2
    rw[hb4];cbv;iterate 2 try(rw[hb4];cbv)
    refine AStep.mk (di hg hi2 hl2) ?_;cbv;try(rw[hb4];cbv)
    obtain⟨x2,hx2,h_2⟩:=aE h_2;obtain⟨x2_Thing,x2_At,x2_Kind,x2_Place,⟨x2_Trip_Leg,x2_Trip_Day⟩⟩:=x2;try dsimp only at h_2
    refine AGet.mk _ (aO hg ht hx2) ?_;cbv;iterate 3 try(rw[hb4];cbv)
    refine AStep.mk (fP hi1) ?_;cbv;refine AGet.mk _ (eV hg ht hi1 hz1) ?_;cbv;iterate 2 try(rw[hb4];cbv)
    obtain⟨x3,hx3,h_2⟩:=ae h_2;try dsimp only at h_2
    refine ACall.mk _ _ rfl (hF _ _ _ (kx hg ht hx3)) (.inl rfl) (nb rfl) ?_;cbv;iterate 2 try(rw[hb4];cbv)
    cases hb5:(lt x3 0)
    ·rw[aa hb5] at h_2;cbv;refine⟨v2,Wk.of [(0,some 0),(1,some 1)] rfl rfl ?_ ?_,(Option.some.inj h_2).symm⟩
     ·cbv;all_goals exact⟨⟨_,rfl,rfl⟩,⟨_,rfl,rfl⟩,⟨_,rfl,rfl⟩,⟨_,rfl,rfl⟩,⟨_,rfl,rfl⟩,trivial⟩
     cbv;all_goals exact⟨⟨_,rfl,_,rfl,rfl,rfl,rfl,trivial⟩,⟨_,rfl,rfl⟩,trivial⟩
    rw[ab hb5] at h_2;cbv;try rw[hg] at h_2
    try rw[ht] at h_2
    refine⟨⟨(n2,(wrap .i64 (add v2 1))),hs2.1,hs2.2,h_2⟩,Wk.of [(0,some 0),(1,some 1)] rfl rfl ?_ ?_,Nat.lt_succ_self _⟩
    ·cbv;all_goals exact⟨⟨_,rfl,rfl⟩,⟨_,rfl,rfl⟩,⟨_,rfl,rfl⟩,⟨_,rfl,rfl⟩,⟨_,rfl,rfl⟩,trivial⟩
    cbv;all_goals exact⟨⟨_,rfl,_,rfl,rfl,rfl,rfl,trivial⟩,⟨_,rfl,rfl⟩,trivial⟩
   rintro y1 hy2;replace hy2:=hy2.symm;subst hy2;try dsimp only[lr,lrL,lrp,aZ] at h_1
   cbv
   cases hb6:(eq y1 (int (dlen (d_Scan w1))))
   rotate_left
   ·rw[ab hb6] at h_1;cbv;iterate 9 try(rw[hb6];cbv)
    obtain⟨l2,hl2,h_1⟩:=ah h_1;try dsimp only at h_1
    refine ANew.mk (d_Scan l2) (dlen (d_Scan l2)) (by rw[←hl2];exact aG hg ht []) (by rw[←hl2];exact ax hg ht []) ?_;cbv;obtain⟨hc1,h_1⟩:=ak h_1;refine AStep.mk hc1 ?_;cbv;obtain⟨hc6,h_1⟩:=ak h_1;obtain⟨hc7,h_1⟩:=ak h_1;refine AStep.mk ⟨(eX hg ht hc6),(au hg ht (ac hg ht _) (bF hg ht _ _ _) hc7)⟩ ?_;cbv;obtain⟨l3,hl3,h_1⟩:=ah h_1;try dsimp only at h_1
    refine ANew.mk (d_Scan l3) (dlen (d_Scan l3)) (by rw[←hl3];exact aR hg ht (ac hg ht _) (bF hg ht _ _ _)) (by rw[←hl3];exact aJ hg ht (ac hg ht _) (bF hg ht _ _ _)) ?_;cbv;refine AStep.mk (fP hi1) ?_;cbv;refine AGet.mk _ (eV hg ht hi1 hz1) ?_;cbv;obtain⟨l4,hl4,h_1⟩:=ah h_1;try dsimp only at h_1
    refine ANew.mk (d_Scan l4) (dlen (d_Scan l4)) (by rw[←hl4];exact aG hg ht [(Scan.mk z1_Thing z1_At z1_Kind z1_Place (Trip.mk z1_Trip_Leg z1_Trip_Day))]) (by rw[←hl4];exact ax hg ht [(Scan.mk z1_Thing z1_At z1_Kind z1_Place (Trip.mk z1_Trip_Leg z1_Trip_Day))]) ?_;cbv;obtain⟨hc5,h_1⟩:=ak h_1;refine AStep.mk ⟨⟨rfl,(ac hg ht _)⟩,(au hg ht (ac hg ht _) rfl hc5)⟩ ?_;cbv;obtain⟨l5,hl5,h_1⟩:=ah h_1;try dsimp only at h_1
    refine ANew.mk (d_Scan l5) (dlen (d_Scan l5)) (by rw[←hl5];exact aR hg ht (ac hg ht _) rfl) (by rw[←hl5];exact aJ hg ht (ac hg ht _) rfl) ?_;cbv;obtain⟨hc2,h_1⟩:=ak h_1;refine AStep.mk hc2 ?_;cbv;obtain⟨hc3,h_1⟩:=ak h_1;obtain⟨hc4,h_1⟩:=ak h_1;refine AStep.mk ⟨(eX hg ht hc3),(au hg ht (ac hg ht _) (bF hg ht _ _ _) hc4)⟩ ?_;cbv;obtain⟨l6,hl6,h_1⟩:=ah h_1;try dsimp only at h_1
    refine ANew.mk (d_Scan l6) (dlen (d_Scan l6)) (by rw[←hl6];exact aR hg ht (ac hg ht _) (bF hg ht _ _ _)) (by rw[←hl6];exact aJ hg ht (ac hg ht _) (bF hg ht _ _ _)) ?_;cbv;try rw[hg] at h_1
    try rw[ht] at h_1
    refine⟨⟨(k1+1,(wrap .i64 (add v1 1)),l6),hc1_,hs1,h_1⟩,Wk.of [(0,some 0),(1,some 466)] rfl rfl ?_ ?_,bc hc1_⟩
    ·cbv;all_goals exact⟨⟨_,rfl,rfl⟩,⟨_,rfl,rfl⟩,⟨_,rfl,rfl⟩,⟨_,rfl,rfl⟩,trivial⟩
    cbv;all_goals exact⟨⟨_,rfl,_,rfl,rfl,rfl,rfl,trivial⟩,⟨_,rfl,rfl⟩,trivial⟩
   rw[aa hb6] at h_1;cbv;iterate 2 try(rw[hb6];cbv)
   obtain⟨hc8,h_1⟩:=ak h_1;refine AStep.mk hc8 ?_;cbv;try(rw[hb6];cbv)
   obtain⟨x4,hx4,h_1⟩:=aE h_1;obtain⟨x4_Thing,x4_At,x4_Kind,x4_Place,⟨x4_Trip_Leg,x4_Trip_Day⟩⟩:=x4;try dsimp only at h_1
   refine AGet.mk _ (aO hg ht hx4) ?_;cbv;iterate 3 try(rw[hb6];cbv)
   refine AStep.mk (fP hi1) ?_;cbv;refine AGet.mk _ (eV hg ht hi1 hz1) ?_;cbv;iterate 3 try(rw[hb6];cbv)
   cases hb7:(all [(eq x4_Thing z1_Thing),(eq x4_At z1_At),(eq x4_Kind z1_Kind),(seq x4_Place z1_Place),(eq x4_Trip_Leg z1_Trip_Leg),(eq x4_Trip_Day z1_Trip_Day)])
   rotate_left
   ·rw[ab hb7] at h_1;cbv;try rw[hg] at h_1
    try rw[ht] at h_1
    refine⟨⟨(k1+1,(wrap .i64 (add v1 1)),w1),hc1_,hs1,h_1⟩,Wk.of [(0,some 0),(1,some 1)] rfl rfl ?_ ?_,bc hc1_⟩
    ·cbv;all_goals exact⟨⟨_,rfl,rfl⟩,⟨_,rfl,rfl⟩,⟨_,rfl,rfl⟩,⟨_,rfl,rfl⟩,trivial⟩
    cbv;all_goals exact⟨⟨_,rfl,_,rfl,rfl,rfl,rfl,trivial⟩,⟨_,rfl,rfl⟩,trivial⟩
   rw[aa hb7] at h_1;cbv;obtain⟨l7,hl7,h_1⟩:=ah h_1;try dsimp only at h_1
   refine ANew.mk (d_Scan l7) (dlen (d_Scan l7)) (by rw[←hl7];exact aG hg ht []) (by rw[←hl7];exact ax hg ht []) ?_;cbv;obtain⟨hc9,h_1⟩:=ak h_1;refine AStep.mk hc9 ?_;cbv;obtain⟨hc14,h_1⟩:=ak h_1;obtain⟨hc15,h_1⟩:=ak h_1;refine AStep.mk ⟨(eX hg ht hc14),(au hg ht (ac hg ht _) (bF hg ht _ _ _) hc15)⟩ ?_;cbv;obtain⟨l8,hl8,h_1⟩:=ah h_1;try dsimp only at h_1
   refine ANew.mk (d_Scan l8) (dlen (d_Scan l8)) (by rw[←hl8];exact aR hg ht (ac hg ht _) (bF hg ht _ _ _)) (by rw[←hl8];exact aJ hg ht (ac hg ht _) (bF hg ht _ _ _)) ?_;cbv;refine AStep.mk (fP hi1) ?_;cbv;refine AGet.mk _ (eV hg ht hi1 hz1) ?_;cbv;obtain⟨l9,hl9,h_1⟩:=ah h_1;try dsimp only at h_1
   refine ANew.mk (d_Scan l9) (dlen (d_Scan l9)) (by rw[←hl9];exact aG hg ht [(Scan.mk z1_Thing z1_At z1_Kind z1_Place (Trip.mk z1_Trip_Leg z1_Trip_Day))]) (by rw[←hl9];exact ax hg ht [(Scan.mk z1_Thing z1_At z1_Kind z1_Place (Trip.mk z1_Trip_Leg z1_Trip_Day))]) ?_;cbv;obtain⟨hc13,h_1⟩:=ak h_1;refine AStep.mk ⟨⟨rfl,(ac hg ht _)⟩,(au hg ht (ac hg ht _) rfl hc13)⟩ ?_;cbv;obtain⟨l10,hl10,h_1⟩:=ah h_1;try dsimp only at h_1
   refine ANew.mk (d_Scan l10) (dlen (d_Scan l10)) (by rw[←hl10];exact aR hg ht (ac hg ht _) rfl) (by rw[←hl10];exact aJ hg ht (ac hg ht _) rfl) ?_;cbv;obtain⟨hc10,h_1⟩:=ak h_1;refine AStep.mk hc10 ?_;cbv;obtain⟨hc11,h_1⟩:=ak h_1;obtain⟨hc12,h_1⟩:=ak h_1;refine AStep.mk ⟨(eX hg ht hc11),(au hg ht (ac hg ht _) (bF hg ht _ _ _) hc12)⟩ ?_;cbv;obtain⟨l11,hl11,h_1⟩:=ah h_1;try dsimp only at h_1
   refine ANew.mk (d_Scan l11) (dlen (d_Scan l11)) (by rw[←hl11];exact aR hg ht (ac hg ht _) (bF hg ht _ _ _)) (by rw[←hl11];exact aJ hg ht (ac hg ht _) (bF hg ht _ _ _)) ?_;cbv;try rw[hg] at h_1
   try rw[ht] at h_1
   refine⟨⟨(k1+1,(wrap .i64 (add v1 1)),l11),hc1_,hs1,h_1⟩,Wk.of [(0,some 0),(1,some 466)] rfl rfl ?_ ?_,bc hc1_⟩
   ·cbv;all_goals exact⟨⟨_,rfl,rfl⟩,⟨_,rfl,rfl⟩,⟨_,rfl,rfl⟩,⟨_,rfl,rfl⟩,trivial⟩
   cbv;all_goals exact⟨⟨_,rfl,_,rfl,rfl,rfl,rfl,trivial⟩,⟨_,rfl,rfl⟩,trivial⟩
  have hb1:lt v1 (llen (r_Scan a1))=false:=jd hg ht hi1 hc1_;rw[List.drop_of_length_le (Nat.le_of_not_lt hc1_)] at h_1;rw[bu] at h_1;try rw[←hg] at h_1
  try rw[←ht] at h_1
  try dsimp only at h_1
  rw[hb1];cbv;iterate 2 try(rw[hb1];cbv)
  refine⟨w1,Wk.of [(0,some 1)] rfl rfl ?_ ?_,(Option.some.inj h_1).symm⟩
  ·cbv;all_goals exact⟨⟨_,rfl,rfl⟩,trivial⟩
  cbv;all_goals exact⟨⟨_,rfl,rfl⟩,trivial⟩
 rintro y2 hy1;replace hy1:=hy1.symm;subst hy1;try dsimp only[lr,lrL,lrp,aZ] at h
 cbv;obtain rfl:=Option.some.inj h;exact ARet.mk ⟨rfl,(ac hg ht _)⟩ hX.symm
def GH:J:=js [jq 3 (.box 0),jq 6 (.mv (.k (.c (.n 6))))] [1,2,3] (js [jq 10 (.bsl 6 []),jm 7 10] [1,2,3,7] (js [jl 11 3 3,jm 12 1,jc 13 36 [11,12],jm 8 13] [2,7,8] (.seq (js [jm 9 (ki 0)] [2,7,8,9] (.bl 0 (.seq (js [jm 14 9,jm 15 8,jq 16 (.len false 15),jb 17 .lss .i 14 16] [2,7,8,9,17] (.cond 17 .skip (.exit 0))) (.seq (.block 1 (js [jm 20 8,jm 21 9,ja 22 6 20 21,jf 23 0 22,jk 24 23,jm 25 2,jb 26 .eql .i 24 25] [2,7,8,9,26] (.cond 26 (.reg none [jm 27 7,jm 28 8,jm 29 9,ja 30 6 28 29,jl 31 6 30,jq 32 (.bsl 6 [31]),jq 33 (.app 6 56 true 27 32),jm 7 33] [2,7,8,9]) .skip))) (.reg none [jm 18 9,jb 19 .add .i 18 (ki 1),jm 9 19] [2,7,8,9]))))) (js [jm 34 7,jm 6 34] [6] .ret))))
def GV:List RV:=[.t 6]
def cV (g:G) (t:TE) (a2:Int) (x1:List Scan):Nat→Int→List Scan→Option (List Scan)
 |0,v1,w1=>
  some w1
 |n1+1,v1,w1=>
  gt x1 (g.nat v1) fun x2=>
  br (g.eq x2.Thing a2)
  (
   lP ([(Scan.mk x2.Thing x2.At x2.Kind x2.Place (Trip.mk x2.Trip.Leg x2.Trip.Day))]) fun(l2:List Scan)=>
   gd (((w1.length+l2.length)*56≤70368744177664))<|
   lP (w1++l2) fun(l3:List Scan)=>
   cV g t a2 x1 n1 (g.wrap .i64 (g.add v1 1)) l3)
  (
   cV g t a2 x1 n1 (g.wrap .i64 (g.add v1 1)) w1)
def j7 (g:G) (t:TE) (a0:Network) (a1:List Scan) (a2:Int):Option (List Scan):=
 lP ([]) fun(l1:List Scan)=>
 cl (fZ g t a0 a1) fun x1=>
 gd (((g.int (g.dlen (t.d_Scan x1)))≤9223372036854775807))<|
 cl (cV g t a2 x1 (ap 0 (g.int (g.dlen (t.d_Scan x1)))) 0 l1) fun y1=>
 some y1
theorem xd {g:G} {t:TE} {a0:Network} {a1:List Scan} {a2:Int} {r:List Scan} (hg:g=G.real) (ht:t=TE.real) (h:j7 g t a0 a1 a2=some r):Fn Tryz.prog 102 [.g (Network.rs t a0),.c (.s 6 (t.r_Scan a1)),.c (.v (.int .i64 a2))] (.c (.o 6 (t.d_Scan r))):=by
 obtain⟨X,hX⟩:=aC (.c (.o 6 (t.d_Scan r)):X);rw[←hX];refine aA (rvs:=GV) (j:=GH) Tryz.func102 rfl (by kernel_rfl) (nb rfl) (by kernel_rfl) af ?_;intro g2 F hg2 hF;obtain rfl:g2=g:=hg2.unique.trans hg.symm;clear hg2;obtain⟨wrap,lt,_,eq,_,_,_,_,_,_,_,_,int,add,_,_,_,_,_,_,_,_,_,_,dlen⟩:=g2;obtain⟨_,_,_,d_Scan⟩:=t
 obtain⟨a0_Legs,a0_Off,a0_Change⟩:=a0;unfold j7 at h;try dsimp only at h
 cbv;obtain⟨l1,hl1,h⟩:=ah h;try dsimp only at h
 refine ANew.mk (d_Scan l1) (dlen (d_Scan l1)) (by rw[←hl1];exact aG hg ht []) (by rw[←hl1];exact ax hg ht []) ?_;cbv;obtain⟨x1,hx1,h⟩:=ae h;try dsimp only at h
 refine ACall.mk _ _ rfl (hF _ _ _ (mD hg ht hx1)) (.inl rfl) (nb rfl) ?_;cbv;obtain⟨hB1,h⟩:=ak h;obtain⟨o1,ho1,h⟩:=ae h;try dsimp only at h
 try rw[hg] at ho1
 try rw[ht] at ho1
 refine ABL.mk {p:Nat×Int×List Scan//p.1=ap p.2.1 (int (dlen (d_Scan x1)))∧0≤p.2.1∧cV G.real TE.real a2 x1 p.1 p.2.1 p.2.2=some o1} (fun⟨⟨n1,v1,w1⟩,_⟩=>({sl:=[(2,.c (.r (.v (.int .i64 a2)))),(7,.c (.f 0 6 0 (dlen (d_Scan w1)))),(8,.c (.f 1 6 0 (dlen (d_Scan x1)))),(9,.c (.r (.v (.int .i64 v1))))],tab:=[(0,some (.arr 6 (d_Scan w1))),(1,some (.arr 6 (d_Scan x1)))]}:St)) 2 (fun p=>p.1.1) ⟨(ap 0 (int (dlen (d_Scan x1))),0,l1),rfl,Int.le_refl _,ho1⟩ (List Scan) (fun y1=>({sl:=[(7,.c (.f 0 6 0 (dlen (d_Scan y1))))],tab:=[(0,some (.arr 6 (d_Scan y1)))]}:St)) 1 (fun y=>o1=y) ?_ ?_ ?_
 ·refine Wk.of [(0,some 32),(1,some 96)] rfl rfl ?_ ?_
  ·cbv;all_goals exact⟨⟨_,rfl,rfl⟩,⟨_,rfl,rfl⟩,⟨_,rfl,rfl⟩,⟨_,rfl,rfl⟩,trivial⟩
  cbv;all_goals exact⟨⟨_,rfl,rfl⟩,⟨_,rfl,rfl⟩,trivial⟩
 ·rintro⟨⟨n1,v1,w1⟩,hn1,hi1,h_1⟩ hq1;try dsimp only at hn1 hi1 h_1
  clear hq1;cbv;rcases n1 with _|n1
  ·have hb1:lt v1 (int (dlen (d_Scan x1)))=false:=ba hg hn1;rw[cV] at h_1;try rw[←hg] at h_1
   try rw[←ht] at h_1
   try dsimp only at h_1
   rw[hb1];cbv;refine⟨w1,Wk.of [(0,some 0)] rfl rfl ?_ ?_,(Option.some.inj h_1).symm⟩
   ·cbv;all_goals exact⟨⟨_,rfl,rfl⟩,trivial⟩
   cbv;all_goals exact⟨⟨_,rfl,rfl⟩,trivial⟩
  have hb1:lt v1 (int (dlen (d_Scan x1)))=true:=bt hg hn1;have hl1:=cR hn1;have hs1:=bS hg hn1 hi1 hB1 (by decide);rw[cV] at h_1;try rw[←hg] at h_1
  try rw[←ht] at h_1
  try dsimp only at h_1
  rw[hb1];cbv;refine AStep.mk (di hg hi1 hl1) ?_;cbv;obtain⟨x2,hx2,h_1⟩:=aE h_1;obtain⟨x2_Thing,x2_At,x2_Kind,x2_Place,⟨x2_Trip_Leg,x2_Trip_Day⟩⟩:=x2;try dsimp only at h_1
  refine AGet.mk _ (aO hg ht hx2) ?_;cbv
  cases hb2:(eq x2_Thing a2)
  ·rw[aa hb2] at h_1;cbv;try rw[hg] at h_1
   try rw[ht] at h_1
   refine⟨⟨(n1,(wrap .i64 (add v1 1)),w1),hs1.1,hs1.2,h_1⟩,Wk.of [(0,some 0),(1,some 1)] rfl rfl ?_ ?_,Nat.lt_succ_self _⟩
   ·cbv;all_goals exact⟨⟨_,rfl,rfl⟩,⟨_,rfl,rfl⟩,⟨_,rfl,rfl⟩,⟨_,rfl,rfl⟩,trivial⟩
   cbv;all_goals exact⟨⟨_,rfl,rfl⟩,⟨_,rfl,rfl⟩,trivial⟩
  rw[ab hb2] at h_1;cbv;refine AStep.mk (di hg hi1 hl1) ?_;cbv;refine AGet.mk _ (aO hg ht hx2) ?_;cbv;obtain⟨l2,hl2,h_1⟩:=ah h_1;try dsimp only at h_1
  refine ANew.mk (d_Scan l2) (dlen (d_Scan l2)) (by rw[←hl2];exact aG hg ht [(Scan.mk x2_Thing x2_At x2_Kind x2_Place (Trip.mk x2_Trip_Leg x2_Trip_Day))]) (by rw[←hl2];exact ax hg ht [(Scan.mk x2_Thing x2_At x2_Kind x2_Place (Trip.mk x2_Trip_Leg x2_Trip_Day))]) ?_;cbv;obtain⟨hc1,h_1⟩:=ak h_1;refine AStep.mk ⟨⟨rfl,(ac hg ht _)⟩,(au hg ht (ac hg ht _) rfl hc1)⟩ ?_;cbv;obtain⟨l3,hl3,h_1⟩:=ah h_1;try dsimp only at h_1
  refine ANew.mk (d_Scan l3) (dlen (d_Scan l3)) (by rw[←hl3];exact aR hg ht (ac hg ht _) rfl) (by rw[←hl3];exact aJ hg ht (ac hg ht _) rfl) ?_;cbv;try rw[hg] at h_1
  try rw[ht] at h_1
  refine⟨⟨(n1,(wrap .i64 (add v1 1)),l3),hs1.1,hs1.2,h_1⟩,Wk.of [(0,some 274),(1,some 1)] rfl rfl ?_ ?_,Nat.lt_succ_self _⟩
  ·cbv;all_goals exact⟨⟨_,rfl,rfl⟩,⟨_,rfl,rfl⟩,⟨_,rfl,rfl⟩,⟨_,rfl,rfl⟩,trivial⟩
  cbv;all_goals exact⟨⟨_,rfl,rfl⟩,⟨_,rfl,rfl⟩,trivial⟩
 rintro y1 hy1;replace hy1:=hy1.symm;subst hy1;try dsimp only[lr,lrL,lrp,aZ] at h
 cbv;obtain rfl:=Option.some.inj h;exact ARet.mk ⟨rfl,(ac hg ht _)⟩ hX.symm
def Hu:J:=js [jq 2 (.box 0),jq 3 (.box 1),jq 4 (.alloc [.r (.v (.string .empty)),.r (.v (.int .i64 0))])] [2,3,4] (.seq (.block 0 (js [jl 6 3 2,jl 7 6 3,jc 8 93 [6,7],jq 9 (.not 8),jm 5 9] [2,3,4,5] (.cond 5 (js [jq 10 (.bld [.r (.v (.string .empty)),.r (.v (.int .i64 0))] []),jp (.st 2 4 10)] [4] .ret) (js [jf 12 2 3,jk 13 12,jb 14 .eql .i 13 (ki 3),jm 15 14,jv 16 15 (.fa 2 3),jv 17 15 (.ld false 1 16),jv 18 15 (.bin .eql .i 17 (ki 2)),jq 19 (.pick 15 kt 18),jm 11 19] [2,3,4,11] (.cond 11 (.seq (.reg (some [[],[0],[],[2],[2,3],[0,1,2,3,4],[0,1,2,3,4,5],[0,1,2,3,4,5,6],[],[],[9],[8,9,10],[0,1,2,3,4,5,6,7,8,9,10,11],[0,1,2,3,4,5,6,7,8,9,10,11,12]]) [jf 20 0 2,jk 21 20,jf 22 4 3,jf 23 0 22,jk 24 23,ja 25 6 21 24,jf 26 0 25,jk 27 26,jl 28 3 2,jf 29 4 3,jl 30 2 29,jc 31 120 [28,30],jq 32 (.bld [.r (.v (.string .empty)),.r (.v (.int .i64 0))] [(0,1,27),(1,1,31)]),jp (.st 2 4 32)] [4]) .ret) .skip))))) (js [jf 33 3 3,jk 34 33,jf 35 1 3,jk 36 35,jq 37 (.bld [.r (.v (.string .empty)),.r (.v (.int .i64 0))] [(0,1,34),(1,1,36)]),jp (.st 2 4 37)] [4] .ret))
def H4:List RV:=[.c 4 true 2]
def ej (g:G) (t:TE) (a0:Network) (a1:Scan):Option Spot:=
 cl (fF g t a0 (Scan.mk a1.Thing a1.At a1.Kind a1.Place (Trip.mk a1.Trip.Leg a1.Trip.Day))) fun x1=>
 br x1
 (
  br (g.eq a1.Kind 3)
  (
   gd (((0:Int)≤a1.Trip.Leg))<|
   gt a0.Legs (g.nat a1.Trip.Leg) fun x2=>
   cl (cM g t a0 (Trip.mk a1.Trip.Leg a1.Trip.Day)) fun x3=>
   some (Spot.mk x2.From x3))
  (
   br (g.eq a1.Kind 2)
   (
    gd (((0:Int)≤a1.Trip.Leg))<|
    gt a0.Legs (g.nat a1.Trip.Leg) fun x4=>
    cl (cM g t a0 (Trip.mk a1.Trip.Leg a1.Trip.Day)) fun x5=>
    some (Spot.mk x4.From x5))
   (
    some (Spot.mk a1.Place a1.At))))
 (
  some (Spot.mk ByteArray.empty 0))
theorem i5 {g:G} {t:TE} {a0:Network} {a1:Scan} {r:Spot} (hg:g=G.real) (ht:t=TE.real) (h:ej g t a0 a1=some r):Fn Tryz.prog 144 [.g (Network.rs t a0),.g (Scan.rs t a1)] (.g (Spot.ds t r)):=by
 obtain⟨X,hX⟩:=aC (.g (Spot.ds t r):X);rw[←hX];refine aA (rvs:=H4) (j:=Hu) Tryz.func144 rfl (by kernel_rfl) (nb rfl) (by kernel_rfl) af ?_;intro g2 F hg2 hF;obtain rfl:g2=g:=hg2.unique.trans hg.symm;clear hg2;obtain⟨_,_,_,eq⟩:=g2;obtain⟨_⟩:=t
 obtain⟨a0_Legs,a0_Off,a0_Change⟩:=a0;obtain⟨a1_Thing,a1_At,a1_Kind,a1_Place,⟨a1_Trip_Leg,a1_Trip_Day⟩⟩:=a1;unfold ej at h;try dsimp only at h
 cbv;obtain⟨x1,hx1,h⟩:=ae h;try dsimp only at h
 refine ACall.mk _ _ rfl (hF _ _ _ (gI hg ht hx1)) (.inl rfl) (nb rfl) ?_;cbv
 cases hb1:x1
 ·rw[aa hb1] at h;cbv;obtain rfl:=Option.some.inj h;exact ARet.mk trivial hX.symm
 rw[ab hb1] at h;cbv
 cases hb2:(eq a1_Kind 3)
 rotate_left
 ·rw[ab hb2] at h;cbv;iterate 3 try(rw[hb2];cbv)
  obtain⟨hc1,h⟩:=ak h;refine AStep.mk hc1 ?_;cbv;obtain⟨x2,hx2,h⟩:=aE h;obtain⟨x2_From,x2_To,x2_Start,x2_Takes,x2_Days,x2_Room⟩:=x2;try dsimp only at h
  refine AGet.mk _ (bk hg ht hx2) ?_;cbv;obtain⟨x3,hx3,h⟩:=ae h;try dsimp only at h
  refine ACall.mk _ _ rfl (hF _ _ _ (fj hg ht hx3)) (.inl rfl) (nb rfl) ?_;cbv;obtain rfl:=Option.some.inj h;exact ARet.mk trivial hX.symm
 rw[aa hb2] at h;cbv;iterate 3 try(rw[hb2];cbv)
 cases hb3:(eq a1_Kind 2)
 ·rw[aa hb3] at h;cbv;obtain rfl:=Option.some.inj h;exact ARet.mk trivial hX.symm
 rw[ab hb3] at h;cbv;obtain⟨hc2,h⟩:=ak h;refine AStep.mk hc2 ?_;cbv;obtain⟨x4,hx4,h⟩:=aE h;obtain⟨x4_From,x4_To,x4_Start,x4_Takes,x4_Days,x4_Room⟩:=x4;try dsimp only at h
 refine AGet.mk _ (bk hg ht hx4) ?_;cbv;obtain⟨x5,hx5,h⟩:=ae h;try dsimp only at h
 refine ACall.mk _ _ rfl (hF _ _ _ (fj hg ht hx5)) (.inl rfl) (nb rfl) ?_;cbv;obtain rfl:=Option.some.inj h;exact ARet.mk trivial hX.symm
def F8:J:=js [jq 3 (.box 0),jq 4 (.box 1),jm 6 (ki 0)] [2,3,4] (.seq (js [jf 7 0 4,jk 8 7,jm 9 2,jb 10 .eql .s 8 9] [2,3,4,10] (.cond 10 (js [jf 11 1 4,jk 12 11,jm 6 12] [6] .ret) .skip)) (js [jl 13 3 3,jf 14 0 4,jk 15 14,jm 16 2,jf 17 1 4,jk 18 17,jc 19 57 [13,15,16,18],jm 6 19] [6] .ret))
def Ib:List RV:=[.t 6]
def gD (g:G) (t:TE) (a0:Network) (a1:Spot) (a2:ByteArray):Option Int:=
 br (g.seq a1.Place a2)
 (
  some a1.At)
 (
  cl (fk g t a0 a1.Place a2 a1.At) fun x1=>
  some x1)
theorem lz {g:G} {t:TE} {a0:Network} {a1:Spot} {a2:ByteArray} {r:Int} (hg:g=G.real) (ht:t=TE.real) (h:gD g t a0 a1 a2=some r):Fn Tryz.prog 145 [.g (Network.rs t a0),.g (Spot.rs t a1),.c (.v (.string a2))] (.c (.r (.v (.int .i64 r)))):=by
 obtain⟨X,hX⟩:=aC (.c (.r (.v (.int .i64 r))):X);rw[←hX];refine aA (rvs:=Ib) (j:=F8) Tryz.func145 rfl (by kernel_rfl) (nb rfl) (by kernel_rfl) af ?_;intro g2 F hg2 hF;obtain rfl:g2=g:=hg2.unique.trans hg.symm;clear hg2;obtain⟨_,_,_,_,_,_,_,_,_,_,_,_,_,_,_,_,_,seq⟩:=g2;obtain⟨_⟩:=t
 obtain⟨a0_Legs,a0_Off,a0_Change⟩:=a0;obtain⟨a1_Place,a1_At⟩:=a1;unfold gD at h;try dsimp only at h
 cbv
 cases hb1:(seq a1_Place a2)
 rotate_left
 ·rw[ab hb1] at h;cbv;obtain rfl:=Option.some.inj h;exact ARet.mk trivial hX.symm
 rw[aa hb1] at h;cbv;obtain⟨x1,hx1,h⟩:=ae h;try dsimp only at h
 refine ACall.mk _ _ rfl (hF _ _ _ (ly hg ht hx1)) (.inl rfl) (nb rfl) ?_;cbv;obtain rfl:=Option.some.inj h;exact ARet.mk trivial hX.symm
def HY (s_k0:ByteArray):J:=js [jq 2 (.box 0),jq 3 (.box 1),jq 4 (.mv (.k (.c (.r (.v (.string s_k0))))))] [2,3] (.seq (.block 0 (js [jl 6 3 2,jl 7 6 3,jc 8 93 [6,7],jq 9 (.not 8),jm 5 9] [2,3,5] (.cond 5 (js [jq 4 (.mv (.k (.c (.r (.v (.string s_k0))))))] [4] .ret) (js [jf 11 2 3,jk 12 11,jb 13 .eql .i 12 (ki 3),jm 10 13] [2,3,10] (.cond 10 (js [jf 14 0 2,jk 15 14,jf 16 4 3,jf 17 0 16,jk 18 17,ja 19 6 15 18,jf 20 0 19,jk 21 20,jm 4 21] [4] .ret) (js [jf 23 2 3,jk 24 23,jb 25 .eql .i 24 (ki 2),jm 22 25] [2,3,22] (.cond 22 (js [jf 26 0 2,jk 27 26,jf 28 4 3,jf 29 0 28,jk 30 29,ja 31 6 27 30,jf 32 1 31,jk 33 32,jm 4 33] [4] .ret) .skip))))))) (js [jf 34 3 3,jk 35 34,jm 4 35] [4] .ret))
def Gl:List RV:=[.t 4]
def jZ (g:G) (t:TE) (a0:Network) (a1:Scan):Option ByteArray:=
 cl (fF g t a0 (Scan.mk a1.Thing a1.At a1.Kind a1.Place (Trip.mk a1.Trip.Leg a1.Trip.Day))) fun x1=>
 br x1
 (
  br (g.eq a1.Kind 3)
  (
   gd (((0:Int)≤a1.Trip.Leg))<|
   gt a0.Legs (g.nat a1.Trip.Leg) fun x2=>
   some x2.From)
  (
   br (g.eq a1.Kind 2)
   (
    gd (((0:Int)≤a1.Trip.Leg))<|
    gt a0.Legs (g.nat a1.Trip.Leg) fun x3=>
    some x3.To)
   (
    some a1.Place)))
 (
  some str_k0)
theorem wq {g:G} {t:TE} {a0:Network} {a1:Scan} {r:ByteArray} (hg:g=G.real) (ht:t=TE.real) (h:jZ g t a0 a1=some r):Fn Tryz.prog 176 [.g (Network.rs t a0),.g (Scan.rs t a1)] (.c (.r (.v (.string r)))):=by
 obtain⟨X,hX⟩:=aC (.c (.r (.v (.string r))):X);rw[←hX];refine aA (rvs:=Gl) (j:=(HY str_k0)) Tryz.func176 rfl (by kernel_rfl) (nb rfl) (by kernel_rfl) af ?_;intro g2 F hg2 hF;obtain rfl:g2=g:=hg2.unique.trans hg.symm;clear hg2;obtain⟨_,_,_,eq⟩:=g2;obtain⟨_⟩:=t
 obtain⟨a0_Legs,a0_Off,a0_Change⟩:=a0;obtain⟨a1_Thing,a1_At,a1_Kind,a1_Place,⟨a1_Trip_Leg,a1_Trip_Day⟩⟩:=a1;unfold jZ at h;try dsimp only at h
 obtain⟨s_k0,hs_k0⟩:∃s,str_k0=s:=⟨_,rfl⟩;try rw[hs_k0] at h
 rw[hs_k0];cbv;obtain⟨x1,hx1,h⟩:=ae h;try dsimp only at h
 refine ACall.mk _ _ rfl (hF _ _ _ (gI hg ht hx1)) (.inl rfl) (nb rfl) ?_;cbv
 cases hb1:x1
 ·rw[aa hb1] at h;cbv;obtain rfl:=Option.some.inj h;exact ARet.mk trivial hX.symm
 rw[ab hb1] at h;cbv
 cases hb2:(eq a1_Kind 3)
 rotate_left
 ·rw[ab hb2] at h;cbv;obtain⟨hc1,h⟩:=ak h;refine AStep.mk hc1 ?_;cbv;obtain⟨x2,hx2,h⟩:=aE h;obtain⟨x2_From,x2_To,x2_Start,x2_Takes,x2_Days,x2_Room⟩:=x2;try dsimp only at h
  refine AGet.mk _ (bk hg ht hx2) ?_;cbv;obtain rfl:=Option.some.inj h;exact ARet.mk trivial hX.symm
 rw[aa hb2] at h;cbv
 cases hb3:(eq a1_Kind 2)
 ·rw[aa hb3] at h;cbv;obtain rfl:=Option.some.inj h;exact ARet.mk trivial hX.symm
 rw[ab hb3] at h;cbv;obtain⟨hc2,h⟩:=ak h;refine AStep.mk hc2 ?_;cbv;obtain⟨x3,hx3,h⟩:=aE h;obtain⟨x3_From,x3_To,x3_Start,x3_Takes,x3_Days,x3_Room⟩:=x3;try dsimp only at h
 refine AGet.mk _ (bk hg ht hx3) ?_;cbv;obtain rfl:=Option.some.inj h;exact ARet.mk trivial hX.symm
def HP:J:=js [jq 2 (.box 0),jq 3 (.box 1),jq 4 (.alloc [.r (.v (.string .empty)),.r (.v (.int .i64 0))])] [2,3,4] (.seq (.block 0 (js [jl 6 3 2,jl 7 6 3,jc 8 93 [6,7],jq 9 (.not 8),jm 5 9] [2,3,4,5] (.cond 5 (js [jq 10 (.bld [.r (.v (.string .empty)),.r (.v (.int .i64 0))] []),jp (.st 2 4 10)] [4] .ret) (js [jf 12 2 3,jk 13 12,jb 14 .eql .i 13 (ki 3),jm 11 14] [2,3,4,11] (.cond 11 (.seq (.reg (some [[],[0],[],[2],[2,3],[0,1,2,3,4],[0,1,2,3,4,5],[0,1,2,3,4,5,6],[],[],[9],[8,9,10],[0,1,2,3,4,5,6,7,8,9,10,11],[0,1,2,3,4,5,6,7,8,9,10,11,12]]) [jf 15 0 2,jk 16 15,jf 17 4 3,jf 18 0 17,jk 19 18,ja 20 6 16 19,jf 21 1 20,jk 22 21,jl 23 3 2,jf 24 4 3,jl 25 2 24,jc 26 118 [23,25],jq 27 (.bld [.r (.v (.string .empty)),.r (.v (.int .i64 0))] [(0,1,22),(1,1,26)]),jp (.st 2 4 27)] [4]) .ret) .skip))))) (.seq (.reg (some [[],[],[0,1],[],[3],[0,1,2,3,4],[0,1,2,3,4,5]]) [jl 28 3 2,jl 29 6 3,jc 30 176 [28,29],jf 31 1 3,jk 32 31,jq 33 (.bld [.r (.v (.string .empty)),.r (.v (.int .i64 0))] [(0,1,30),(1,1,32)]),jp (.st 2 4 33)] [4]) .ret))
def HX:List RV:=[.c 4 true 2]
def eA (g:G) (t:TE) (a0:Network) (a1:Scan):Option Spot:=
 cl (fF g t a0 (Scan.mk a1.Thing a1.At a1.Kind a1.Place (Trip.mk a1.Trip.Leg a1.Trip.Day))) fun x1=>
 br x1
 (
  br (g.eq a1.Kind 3)
  (
   gd (((0:Int)≤a1.Trip.Leg))<|
   gt a0.Legs (g.nat a1.Trip.Leg) fun x2=>
   cl (eC g t a0 (Trip.mk a1.Trip.Leg a1.Trip.Day)) fun x3=>
   some (Spot.mk x2.To x3))
  (
   cl (jZ g t a0 (Scan.mk a1.Thing a1.At a1.Kind a1.Place (Trip.mk a1.Trip.Leg a1.Trip.Day))) fun x4=>
   some (Spot.mk x4 a1.At)))
 (
  some (Spot.mk ByteArray.empty 0))
theorem jw {g:G} {t:TE} {a0:Network} {a1:Scan} {r:Spot} (hg:g=G.real) (ht:t=TE.real) (h:eA g t a0 a1=some r):Fn Tryz.prog 146 [.g (Network.rs t a0),.g (Scan.rs t a1)] (.g (Spot.ds t r)):=by
 obtain⟨X,hX⟩:=aC (.g (Spot.ds t r):X);rw[←hX];refine aA (rvs:=HX) (j:=HP) Tryz.func146 rfl (by kernel_rfl) (nb rfl) (by kernel_rfl) af ?_;intro g2 F hg2 hF;obtain rfl:g2=g:=hg2.unique.trans hg.symm;clear hg2;obtain⟨_,_,_,eq⟩:=g2;obtain⟨_⟩:=t
 obtain⟨a0_Legs,a0_Off,a0_Change⟩:=a0;obtain⟨a1_Thing,a1_At,a1_Kind,a1_Place,⟨a1_Trip_Leg,a1_Trip_Day⟩⟩:=a1;unfold eA at h;try dsimp only at h
 cbv;obtain⟨x1,hx1,h⟩:=ae h;try dsimp only at h
 refine ACall.mk _ _ rfl (hF _ _ _ (gI hg ht hx1)) (.inl rfl) (nb rfl) ?_;cbv
 cases hb1:x1
 ·rw[aa hb1] at h;cbv;obtain rfl:=Option.some.inj h;exact ARet.mk trivial hX.symm
 rw[ab hb1] at h;cbv
 cases hb2:(eq a1_Kind 3)
 ·rw[aa hb2] at h;cbv;obtain⟨x4,hx4,h⟩:=ae h;try dsimp only at h
  refine ACall.mk _ _ rfl (hF _ _ _ (wq hg ht hx4)) (.inl rfl) (nb rfl) ?_;cbv;obtain rfl:=Option.some.inj h;exact ARet.mk trivial hX.symm
 rw[ab hb2] at h;cbv;obtain⟨hc1,h⟩:=ak h;refine AStep.mk hc1 ?_;cbv;obtain⟨x2,hx2,h⟩:=aE h;obtain⟨x2_From,x2_To,x2_Start,x2_Takes,x2_Days,x2_Room⟩:=x2;try dsimp only at h
 refine AGet.mk _ (bk hg ht hx2) ?_;cbv;obtain⟨x3,hx3,h⟩:=ae h;try dsimp only at h
 refine ACall.mk _ _ rfl (hF _ _ _ (gU hg ht hx3)) (.inl rfl) (nb rfl) ?_;cbv;obtain rfl:=Option.some.inj h;exact ARet.mk trivial hX.symm
def GA:J:=js [jq 3 (.box 0),jq 4 (.box 1),jq 5 (.box 2),jm 6 kf] [3,4,5] (.seq (js [jl 9 3 3,jl 10 6 4,jc 11 93 [9,10],jq 12 (.not 11),jm 13 12,jv 14 13 (.ld true 3 3),jv 15 13 (.ld true 6 5),jv 16 13 (.call 93 true [14,15]),jv 17 13 (.not 16),jq 18 (.pick 13 kt 17),jm 19 18,jv 20 19 (.fa 0 4),jv 21 19 (.ld false 1 20),jv 22 19 (.fa 0 5),jv 23 19 (.ld false 1 22),jv 24 19 (.bin .neq .i 21 23),jq 25 (.pick 19 kt 24),jm 26 25,jv 27 26 (.fa 2 4),jv 28 26 (.ld false 1 27),jv 29 26 (.bin .eql .i 28 (ki 4)),jq 30 (.pick 26 kt 29),jm 31 30,jv 32 31 (.ld true 6 4),jv 33 31 (.ld true 6 5),jv 34 31 (.call 94 true [32,33]),jv 35 31 (.bin .geq .i 34 (ki 0)),jq 36 (.pick 31 kt 35)] [3,4,5,36] (.cond 36 (js [jm 6 kf] [6] .ret) .skip)) (.seq (js [jf 37 2 4,jk 38 37,jb 39 .eql .i 38 (ki 3),jm 40 39,ju 41 40 (.fa 2 5),ju 42 40 (.ld false 1 41),ju 43 40 (.bin .eql .i 42 (ki 2)),jq 44 (.pick 40 43 kf),jm 45 44,ju 46 45 (.fa 4 4),ju 47 45 (.ld true 2 46),ju 48 45 (.fa 4 5),ju 49 45 (.ld true 2 48),ju 50 45 (.eqs false [.i,.i] 47 49),jq 51 (.pick 45 50 kf)] [3,4,5,51] (.cond 51 (js [jm 6 kt] [6] .ret) .skip)) (js [jl 52 3 3,jl 53 6 5,jc 54 144 [52,53],jq 7 (.alloc [.r (.v (.string .empty)),.r (.v (.int .i64 0))]),jp (.st 2 7 54)] [3,4,7] (.seq (.reg (some [[],[],[],[1,2],[],[4],[0,1,2,3,4,5],[0,1,2,3,4,5,6]]) [jl 55 3 3,jl 56 3 3,jl 57 6 4,jc 58 146 [56,57],jf 59 0 7,jk 60 59,jc 61 145 [55,58,60],jm 8 61] [7,8]) (js [jm 62 8,jb 63 .geq .i 62 (ki 0),jm 64 63,ju 65 64 (.mv 8),ju 66 64 (.fa 1 7),ju 67 64 (.ld false 1 66),ju 68 64 (.bin .leq .i 65 67),jq 69 (.pick 64 68 kf),jm 6 69] [6] .ret)))))
def GF:List RV:=[.t 6]
def il (g:G) (t:TE) (a0:Network) (a1:Scan) (a2:Scan):Option Bool:=
 cl (fF g t a0 (Scan.mk a1.Thing a1.At a1.Kind a1.Place (Trip.mk a1.Trip.Leg a1.Trip.Day))) fun x1=>
 br x1
 (
  cl (fF g t a0 (Scan.mk a2.Thing a2.At a2.Kind a2.Place (Trip.mk a2.Trip.Leg a2.Trip.Day))) fun x2=>
  br x2
  (
   br (g.eq a1.Thing a2.Thing)
   (
    br (g.eq a1.Kind 4)
    (
     some false)
    (
     cl (de g t (Scan.mk a1.Thing a1.At a1.Kind a1.Place (Trip.mk a1.Trip.Leg a1.Trip.Day)) (Scan.mk a2.Thing a2.At a2.Kind a2.Place (Trip.mk a2.Trip.Leg a2.Trip.Day))) fun x3=>
     br (g.le 0 x3)
     (
      some false)
     (
      br (g.eq a1.Kind 3)
      (
       br (g.eq a2.Kind 2)
       (
        br (g.all [(g.eq a1.Trip.Leg a2.Trip.Leg),(g.eq a1.Trip.Day a2.Trip.Day)])
        (
         some true)
        (
         cl (ej g t a0 (Scan.mk a2.Thing a2.At a2.Kind a2.Place (Trip.mk a2.Trip.Leg a2.Trip.Day))) fun x4=>
         cl (eA g t a0 (Scan.mk a1.Thing a1.At a1.Kind a1.Place (Trip.mk a1.Trip.Leg a1.Trip.Day))) fun x5=>
         cl (gD g t a0 x5 x4.Place) fun x6=>
         br (g.le 0 x6)
         (
          some (g.le x6 x4.At))
         (
          some false)))
       (
        cl (ej g t a0 (Scan.mk a2.Thing a2.At a2.Kind a2.Place (Trip.mk a2.Trip.Leg a2.Trip.Day))) fun x7=>
        cl (eA g t a0 (Scan.mk a1.Thing a1.At a1.Kind a1.Place (Trip.mk a1.Trip.Leg a1.Trip.Day))) fun x8=>
        cl (gD g t a0 x8 x7.Place) fun x9=>
        br (g.le 0 x9)
        (
         some (g.le x9 x7.At))
        (
         some false)))
      (
       cl (ej g t a0 (Scan.mk a2.Thing a2.At a2.Kind a2.Place (Trip.mk a2.Trip.Leg a2.Trip.Day))) fun x10=>
       cl (eA g t a0 (Scan.mk a1.Thing a1.At a1.Kind a1.Place (Trip.mk a1.Trip.Leg a1.Trip.Day))) fun x11=>
       cl (gD g t a0 x11 x10.Place) fun x12=>
       br (g.le 0 x12)
       (
        some (g.le x12 x10.At))
       (
        some false)))))
   (
    some false))
  (
   some false))
 (
  some false)
theorem s6 {g:G} {t:TE} {a0:Network} {a1:Scan} {a2:Scan} {r:Bool} (hg:g=G.real) (ht:t=TE.real) (h:il g t a0 a1 a2=some r):Fn Tryz.prog 103 [.g (Network.rs t a0),.g (Scan.rs t a1),.g (Scan.rs t a2)] (.c (.r (.v (.bool r)))):=by
 obtain⟨X,hX⟩:=aC (.c (.r (.v (.bool r))):X);rw[←hX];refine aA (rvs:=GF) (j:=GA) Tryz.func103 rfl (by kernel_rfl) (nb rfl) (by kernel_rfl) af ?_;intro g2 F hg2 hF;obtain rfl:g2=g:=hg2.unique.trans hg.symm;clear hg2;obtain⟨_,_,le,eq,_,_,_,_,_,_,_,_,_,_,_,_,_,_,_,_,_,_,_,_,_,_,_,_,_,_,_,_,_,all⟩:=g2;obtain⟨_⟩:=t
 obtain⟨a0_Legs,a0_Off,a0_Change⟩:=a0;obtain⟨a1_Thing,a1_At,a1_Kind,a1_Place,⟨a1_Trip_Leg,a1_Trip_Day⟩⟩:=a1;obtain⟨a2_Thing,a2_At,a2_Kind,a2_Place,⟨a2_Trip_Leg,a2_Trip_Day⟩⟩:=a2;unfold il at h;try dsimp only at h
 cbv;obtain⟨x1,hx1,h⟩:=ae h;try dsimp only at h
 refine ACall.mk _ _ rfl (hF _ _ _ (gI hg ht hx1)) (.inl rfl) (nb rfl) ?_;cbv
 cases hb1:x1
 ·rw[aa hb1] at h;cbv;iterate 4 try(rw[hb1];cbv)
  obtain rfl:=Option.some.inj h;exact ARet.mk trivial hX.symm
 rw[ab hb1] at h;cbv;iterate 2 try(rw[hb1];cbv)
 obtain⟨x2,hx2,h⟩:=ae h;try dsimp only at h
 refine ACall.mk _ _ rfl (hF _ _ _ (gI hg ht hx2)) (.inl rfl) (nb rfl) ?_;cbv;iterate 2 try(rw[hb1];cbv)
 cases hb2:x2
 ·rw[aa hb2] at h;cbv;iterate 5 try(rw[hb2];cbv)
  obtain rfl:=Option.some.inj h;exact ARet.mk trivial hX.symm
 rw[ab hb2] at h;cbv;iterate 5 try(rw[hb2];cbv)
 cases hb3:(eq a1_Thing a2_Thing)
 ·rw[aa hb3] at h;cbv;iterate 3 try(rw[hb3];cbv)
  obtain rfl:=Option.some.inj h;exact ARet.mk trivial hX.symm
 rw[ab hb3] at h;cbv;iterate 3 try(rw[hb3];cbv)
 cases hb4:(eq a1_Kind 4)
 rotate_left
 ·rw[ab hb4] at h;cbv;iterate 4 try(rw[hb4];cbv)
  obtain rfl:=Option.some.inj h;exact ARet.mk trivial hX.symm
 rw[aa hb4] at h;cbv;iterate 2 try(rw[hb4];cbv)
 obtain⟨x3,hx3,h⟩:=ae h;try dsimp only at h
 refine ACall.mk _ _ rfl (hF _ _ _ (kx hg ht hx3)) (.inl rfl) (nb rfl) ?_;cbv;iterate 2 try(rw[hb4];cbv)
 cases hb5:(le 0 x3)
 rotate_left
 ·rw[ab hb5] at h;cbv;obtain rfl:=Option.some.inj h;exact ARet.mk trivial hX.symm
 rw[aa hb5] at h;cbv
 cases hb6:(eq a1_Kind 3)
 ·rw[aa hb6] at h;cbv;iterate 3 try(rw[hb6];cbv)
  obtain⟨x10,hx10,h⟩:=ae h;obtain⟨x10_Place,x10_At⟩:=x10;try dsimp only at h
  refine ACall.mk _ _ rfl (hF _ _ _ (i5 hg ht hx10)) (.inl rfl) (nb rfl) ?_;cbv;obtain⟨x11,hx11,h⟩:=ae h;obtain⟨x11_Place,x11_At⟩:=x11;try dsimp only at h
  refine ACall.mk _ _ rfl (hF _ _ _ (jw hg ht hx11)) (.inl rfl) (nb rfl) ?_;cbv;obtain⟨x12,hx12,h⟩:=ae h;try dsimp only at h
  refine ACall.mk _ _ rfl (hF _ _ _ (lz hg ht hx12)) (.inl rfl) (nb rfl) ?_;cbv
  cases hb11:(le 0 x12)
  rotate_left
  ·rw[ab hb11] at h;cbv;iterate 4 try(rw[hb11];cbv)
   obtain rfl:=Option.some.inj h;exact ARet.mk trivial hX.symm
  rw[aa hb11] at h;cbv;iterate 4 try(rw[hb11];cbv)
  obtain rfl:=Option.some.inj h;exact ARet.mk trivial hX.symm
 rw[ab hb6] at h;cbv;iterate 3 try(rw[hb6];cbv)
 cases hb7:(eq a2_Kind 2)
 ·rw[aa hb7] at h;cbv;iterate 5 try(rw[hb7];cbv)
  obtain⟨x7,hx7,h⟩:=ae h;obtain⟨x7_Place,x7_At⟩:=x7;try dsimp only at h
  refine ACall.mk _ _ rfl (hF _ _ _ (i5 hg ht hx7)) (.inl rfl) (nb rfl) ?_;cbv;obtain⟨x8,hx8,h⟩:=ae h;obtain⟨x8_Place,x8_At⟩:=x8;try dsimp only at h
  refine ACall.mk _ _ rfl (hF _ _ _ (jw hg ht hx8)) (.inl rfl) (nb rfl) ?_;cbv;obtain⟨x9,hx9,h⟩:=ae h;try dsimp only at h
  refine ACall.mk _ _ rfl (hF _ _ _ (lz hg ht hx9)) (.inl rfl) (nb rfl) ?_;cbv
  cases hb10:(le 0 x9)
  rotate_left
  ·rw[ab hb10] at h;cbv;iterate 4 try(rw[hb10];cbv)
   obtain rfl:=Option.some.inj h;exact ARet.mk trivial hX.symm
  rw[aa hb10] at h;cbv;iterate 4 try(rw[hb10];cbv)
  obtain rfl:=Option.some.inj h;exact ARet.mk trivial hX.symm
 rw[ab hb7] at h;cbv;iterate 5 try(rw[hb7];cbv)
 cases hb8:(all [(eq a1_Trip_Leg a2_Trip_Leg),(eq a1_Trip_Day a2_Trip_Day)])
 rotate_left
 ·rw[ab hb8] at h;cbv;obtain rfl:=Option.some.inj h;exact ARet.mk trivial hX.symm
 rw[aa hb8] at h;cbv;obtain⟨x4,hx4,h⟩:=ae h;obtain⟨x4_Place,x4_At⟩:=x4;try dsimp only at h
 refine ACall.mk _ _ rfl (hF _ _ _ (i5 hg ht hx4)) (.inl rfl) (nb rfl) ?_;cbv;obtain⟨x5,hx5,h⟩:=ae h;obtain⟨x5_Place,x5_At⟩:=x5;try dsimp only at h
 refine ACall.mk _ _ rfl (hF _ _ _ (jw hg ht hx5)) (.inl rfl) (nb rfl) ?_;cbv;obtain⟨x6,hx6,h⟩:=ae h;try dsimp only at h
 refine ACall.mk _ _ rfl (hF _ _ _ (lz hg ht hx6)) (.inl rfl) (nb rfl) ?_;cbv
 cases hb9:(le 0 x6)
 rotate_left
 ·rw[ab hb9] at h;cbv;iterate 4 try(rw[hb9];cbv)
  obtain rfl:=Option.some.inj h;exact ARet.mk trivial hX.symm
 rw[aa hb9] at h;cbv;iterate 4 try(rw[hb9];cbv)
 obtain rfl:=Option.some.inj h;exact ARet.mk trivial hX.symm
def ir47:J:=js [jq 3 (.box 0),jq 6 (.mv (.k (.c (.n 6))))] [1,2,3] (js [jq 10 (.bsl 6 []),jm 7 10] [1,2,3,7] (js [jl 11 3 3,jm 12 1,jm 13 2,jc 14 102 [11,12,13],jm 8 14] [3,7,8] (.seq (js [jm 9 (ki 0)] [3,7,8,9] (.bl 0 (.seq (js [jm 15 9,jm 16 8,jq 17 (.len false 16),jb 18 .lss .i 15 17] [3,7,8,9,18] (.cond 18 .skip (.exit 0))) (.seq (.block 1 (.seq (.reg (some [[],[0],[0,1],[0,1,2],[0,1,2,3],[0,1,2,3],[0,1,2,3],[0,1,2,3,6],[0,1,2,3,6,7],[0,1,2,3,5,6,7,8],[0,1,2,3,5,6,7,8,9],[0,1,2,3],[0,1,2,3],[0,1,2,3,11,12],[0,1,2,3,11,12,13],[0,1,2,3,4,5,6,7,8,9,10,11,12,13,14],[0,1,2,3,4,5,6,7,8,9,10,11,12,13,14,15]]) [jm 21 7,jq 22 (.len false 21),jb 23 .eql .i 22 (ki 0),jm 24 23,jv 25 24 (.ld true 3 3),jv 26 24 (.mv 7),jv 27 24 (.mv 7),jv 28 24 (.len false 27),jv 29 24 (.bin .sub .i 28 (ki 1)),jv 30 24 (.ia 6 26 29),jv 31 24 (.ld true 6 30),jv 32 24 (.mv 8),jv 33 24 (.mv 9),jv 34 24 (.ia 6 32 33),jv 35 24 (.ld true 6 34),jv 36 24 (.call 103 true [25,31,35]),jq 37 (.pick 24 kt 36)] [3,7,8,9,37]) (.cond 37 (.reg none [jm 38 7,jm 39 8,jm 40 9,ja 41 6 39 40,jl 42 6 41,jq 43 (.bsl 6 [42]),jq 44 (.app 6 56 true 38 43),jm 7 44] [3,7,8,9]) .skip))) (.reg none [jm 19 9,jb 20 .add .i 19 (ki 1),jm 9 20] [3,7,8,9]))))) (js [jm 45 7,jm 6 45] [6] .ret))))
def rv47:List RV:=[.t 6]
def cw (g:G) (t:TE) (a0:Network) (x1:List Scan):Nat→Int→List Scan→Option (List Scan)
 |0,v1,w1=>
  some w1
 |n1+1,v1,w1=>
  br (g.eq (g.int (g.dlen (t.d_Scan w1))) 0)
  (
   gt x1 (g.nat v1) fun x2=>
   lP ([(Scan.mk x2.Thing x2.At x2.Kind x2.Place (Trip.mk x2.Trip.Leg x2.Trip.Day))]) fun(l2:List Scan)=>
   gd (((w1.length+l2.length)*56≤70368744177664))<|
   lP (w1++l2) fun(l3:List Scan)=>
   cw g t a0 x1 n1 (g.wrap .i64 (g.add v1 1)) l3)
  (
   gd (((0:Int)≤(g.wrap .i64 (g.sub (g.int (g.dlen (t.d_Scan w1))) 1))∧(g.wrap .i64 (g.sub (g.int (g.dlen (t.d_Scan w1))) 1))<(((g.dlen (t.d_Scan w1)):Nat):Int)))<|
   gt w1 (g.nat (g.wrap .i64 (g.sub (g.int (g.dlen (t.d_Scan w1))) 1))) fun x3=>
   gt x1 (g.nat v1) fun x4=>
   cl (il g t a0 (Scan.mk x3.Thing x3.At x3.Kind x3.Place (Trip.mk x3.Trip.Leg x3.Trip.Day)) (Scan.mk x4.Thing x4.At x4.Kind x4.Place (Trip.mk x4.Trip.Leg x4.Trip.Day))) fun x5=>
   br x5
   (
    lP ([(Scan.mk x4.Thing x4.At x4.Kind x4.Place (Trip.mk x4.Trip.Leg x4.Trip.Day))]) fun(l4:List Scan)=>
    gd (((w1.length+l4.length)*56≤70368744177664))<|
    lP (w1++l4) fun(l5:List Scan)=>
    cw g t a0 x1 n1 (g.wrap .i64 (g.add v1 1)) l5)
   (
    cw g t a0 x1 n1 (g.wrap .i64 (g.add v1 1)) w1))
def gF (g:G) (t:TE) (a0:Network) (a1:List Scan) (a2:Int):Option (List Scan):=
 lP ([]) fun(l1:List Scan)=>
 cl (j7 g t a0 a1 a2) fun x1=>
 gd (((g.int (g.dlen (t.d_Scan x1)))≤9223372036854775807))<|
 cl (cw g t a0 x1 (ap 0 (g.int (g.dlen (t.d_Scan x1)))) 0 l1) fun y1=>
 some y1
theorem pH {g:G} {t:TE} {a0:Network} {a1:List Scan} {a2:Int} {r:List Scan} (hg:g=G.real) (ht:t=TE.real) (h:gF g t a0 a1 a2=some r):Fn Tryz.prog 47 [.g (Network.rs t a0),.c (.s 6 (t.r_Scan a1)),.c (.v (.int .i64 a2))] (.c (.o 6 (t.d_Scan r))):=by
 obtain⟨X,hX⟩:=aC (.c (.o 6 (t.d_Scan r)):X);rw[←hX];refine aA (rvs:=rv47) (j:=ir47) Tryz.func47 rfl (by kernel_rfl) (nb rfl) (by kernel_rfl) af ?_;intro g2 F hg2 hF;obtain rfl:g2=g:=hg2.unique.trans hg.symm;clear hg2;obtain⟨wrap,lt,_,eq,_,_,_,_,_,_,_,_,int,add,_,_,_,_,_,_,_,_,_,_,dlen⟩:=g2;obtain⟨_,_,_,d_Scan,r_Leg,_,r_I64⟩:=t
 obtain⟨a0_Legs,a0_Off,a0_Change⟩:=a0;unfold gF at h;try dsimp only at h
 cbv;obtain⟨l1,hl1,h⟩:=ah h;try dsimp only at h
 refine ANew.mk (d_Scan l1) (dlen (d_Scan l1)) (by rw[←hl1];exact aG hg ht []) (by rw[←hl1];exact ax hg ht []) ?_;cbv;obtain⟨x1,hx1,h⟩:=ae h;try dsimp only at h
 refine ACall.mk _ _ rfl (hF _ _ _ (xd hg ht hx1)) (.inl rfl) (nb rfl) ?_;cbv;obtain⟨hB1,h⟩:=ak h;obtain⟨o1,ho1,h⟩:=ae h;try dsimp only at h
 try rw[hg] at ho1
 try rw[ht] at ho1
 refine ABL.mk {p:Nat×Int×List Scan//p.1=ap p.2.1 (int (dlen (d_Scan x1)))∧0≤p.2.1∧cw G.real TE.real (Network.mk a0_Legs a0_Off a0_Change) x1 p.1 p.2.1 p.2.2=some o1} (fun⟨⟨n1,v1,w1⟩,_⟩=>({sl:=[(3,.c (.p 0 3 0 0)),(7,.c (.f 1 6 0 (dlen (d_Scan w1)))),(8,.c (.f 2 6 0 (dlen (d_Scan x1)))),(9,.c (.r (.v (.int .i64 v1))))],tab:=[(0,some (.foc 3 [] [.r (.s 6 (r_Leg a0_Legs)),.r (.s 1 (r_I64 a0_Off)),.r (.v (.int .i64 a0_Change))] [])),(1,some (.arr 6 (d_Scan w1))),(2,some (.arr 6 (d_Scan x1)))]}:St)) 3 (fun p=>p.1.1) ⟨(ap 0 (int (dlen (d_Scan x1))),0,l1),rfl,Int.le_refl _,ho1⟩ (List Scan) (fun y1=>({sl:=[(7,.c (.f 0 6 0 (dlen (d_Scan y1))))],tab:=[(0,some (.arr 6 (d_Scan y1)))]}:St)) 1 (fun y=>o1=y) ?_ ?_ ?_
 ·refine Wk.of [(0,some 0),(1,some 32),(2,some 112)] rfl rfl ?_ ?_
  ·cbv;all_goals exact⟨⟨_,rfl,rfl⟩,⟨_,rfl,rfl⟩,⟨_,rfl,rfl⟩,⟨_,rfl,rfl⟩,trivial⟩
  cbv;all_goals exact⟨⟨_,rfl,_,rfl,rfl,rfl,rfl,trivial⟩,⟨_,rfl,rfl⟩,⟨_,rfl,rfl⟩,trivial⟩
 ·rintro⟨⟨n1,v1,w1⟩,hn1,hi1,h_1⟩ hq1;try dsimp only at hn1 hi1 h_1
  clear hq1;cbv;rcases n1 with _|n1
  ·have hb1:lt v1 (int (dlen (d_Scan x1)))=false:=ba hg hn1;rw[cw] at h_1;try rw[←hg] at h_1
   try rw[←ht] at h_1
   try dsimp only at h_1
   rw[hb1];cbv;refine⟨w1,Wk.of [(0,some 1)] rfl rfl ?_ ?_,(Option.some.inj h_1).symm⟩
   ·cbv;all_goals exact⟨⟨_,rfl,rfl⟩,trivial⟩
   cbv;all_goals exact⟨⟨_,rfl,rfl⟩,trivial⟩
  have hb1:lt v1 (int (dlen (d_Scan x1)))=true:=bt hg hn1;have hl1:=cR hn1;have hs1:=bS hg hn1 hi1 hB1 (by decide);rw[cw] at h_1;try rw[←hg] at h_1
  try rw[←ht] at h_1
  try dsimp only at h_1
  rw[hb1];cbv
  cases hb2:(eq (int (dlen (d_Scan w1))) 0)
  rotate_left
  ·rw[ab hb2] at h_1;cbv;iterate 12 try(rw[hb2];cbv)
   refine AStep.mk (di hg hi1 hl1) ?_;cbv;obtain⟨x2,hx2,h_1⟩:=aE h_1;obtain⟨x2_Thing,x2_At,x2_Kind,x2_Place,⟨x2_Trip_Leg,x2_Trip_Day⟩⟩:=x2;try dsimp only at h_1
   refine AGet.mk _ (aO hg ht hx2) ?_;cbv;obtain⟨l2,hl2,h_1⟩:=ah h_1;try dsimp only at h_1
   refine ANew.mk (d_Scan l2) (dlen (d_Scan l2)) (by rw[←hl2];exact aG hg ht [(Scan.mk x2_Thing x2_At x2_Kind x2_Place (Trip.mk x2_Trip_Leg x2_Trip_Day))]) (by rw[←hl2];exact ax hg ht [(Scan.mk x2_Thing x2_At x2_Kind x2_Place (Trip.mk x2_Trip_Leg x2_Trip_Day))]) ?_;cbv;obtain⟨hc1,h_1⟩:=ak h_1;refine AStep.mk ⟨⟨rfl,(ac hg ht _)⟩,(au hg ht (ac hg ht _) rfl hc1)⟩ ?_;cbv;obtain⟨l3,hl3,h_1⟩:=ah h_1;try dsimp only at h_1
   refine ANew.mk (d_Scan l3) (dlen (d_Scan l3)) (by rw[←hl3];exact aR hg ht (ac hg ht _) rfl) (by rw[←hl3];exact aJ hg ht (ac hg ht _) rfl) ?_;cbv;try rw[hg] at h_1
   try rw[ht] at h_1
   refine⟨⟨(n1,(wrap .i64 (add v1 1)),l3),hs1.1,hs1.2,h_1⟩,Wk.of [(0,some 0),(1,some 435),(2,some 2)] rfl rfl ?_ ?_,Nat.lt_succ_self _⟩
   ·cbv;all_goals exact⟨⟨_,rfl,rfl⟩,⟨_,rfl,rfl⟩,⟨_,rfl,rfl⟩,⟨_,rfl,rfl⟩,trivial⟩
   cbv;all_goals exact⟨⟨_,rfl,_,rfl,rfl,rfl,rfl,trivial⟩,⟨_,rfl,rfl⟩,⟨_,rfl,rfl⟩,trivial⟩
  rw[aa hb2] at h_1;cbv;iterate 5 try(rw[hb2];cbv)
  obtain⟨hc2,h_1⟩:=ak h_1;refine AStep.mk hc2 ?_;cbv;try(rw[hb2];cbv)
  obtain⟨x3,hx3,h_1⟩:=aE h_1;obtain⟨x3_Thing,x3_At,x3_Kind,x3_Place,⟨x3_Trip_Leg,x3_Trip_Day⟩⟩:=x3;try dsimp only at h_1
  refine AGet.mk _ (aO hg ht hx3) ?_;cbv;iterate 3 try(rw[hb2];cbv)
  refine AStep.mk (di hg hi1 hl1) ?_;cbv;try(rw[hb2];cbv)
  obtain⟨x4,hx4,h_1⟩:=aE h_1;obtain⟨x4_Thing,x4_At,x4_Kind,x4_Place,⟨x4_Trip_Leg,x4_Trip_Day⟩⟩:=x4;try dsimp only at h_1
  refine AGet.mk _ (aO hg ht hx4) ?_;cbv;try(rw[hb2];cbv)
  obtain⟨x5,hx5,h_1⟩:=ae h_1;try dsimp only at h_1
  refine ACall.mk _ _ rfl (hF _ _ _ (s6 hg ht hx5)) (.inl rfl) (nb rfl) ?_;cbv;try(rw[hb2];cbv)
  cases hb3:x5
  ·rw[aa hb3] at h_1;cbv;try rw[hg] at h_1
   try rw[ht] at h_1
   refine⟨⟨(n1,(wrap .i64 (add v1 1)),w1),hs1.1,hs1.2,h_1⟩,Wk.of [(0,some 0),(1,some 1),(2,some 2)] rfl rfl ?_ ?_,Nat.lt_succ_self _⟩
   ·cbv;all_goals exact⟨⟨_,rfl,rfl⟩,⟨_,rfl,rfl⟩,⟨_,rfl,rfl⟩,⟨_,rfl,rfl⟩,trivial⟩
   cbv;all_goals exact⟨⟨_,rfl,_,rfl,rfl,rfl,rfl,trivial⟩,⟨_,rfl,rfl⟩,⟨_,rfl,rfl⟩,trivial⟩
  rw[ab hb3] at h_1;cbv;refine AStep.mk (di hg hi1 hl1) ?_;cbv;refine AGet.mk _ (aO hg ht hx4) ?_;cbv;obtain⟨l4,hl4,h_1⟩:=ah h_1;try dsimp only at h_1
  refine ANew.mk (d_Scan l4) (dlen (d_Scan l4)) (by rw[←hl4];exact aG hg ht [(Scan.mk x4_Thing x4_At x4_Kind x4_Place (Trip.mk x4_Trip_Leg x4_Trip_Day))]) (by rw[←hl4];exact ax hg ht [(Scan.mk x4_Thing x4_At x4_Kind x4_Place (Trip.mk x4_Trip_Leg x4_Trip_Day))]) ?_;cbv;obtain⟨hc3,h_1⟩:=ak h_1;refine AStep.mk ⟨⟨rfl,(ac hg ht _)⟩,(au hg ht (ac hg ht _) rfl hc3)⟩ ?_;cbv;obtain⟨l5,hl5,h_1⟩:=ah h_1;try dsimp only at h_1
  refine ANew.mk (d_Scan l5) (dlen (d_Scan l5)) (by rw[←hl5];exact aR hg ht (ac hg ht _) rfl) (by rw[←hl5];exact aJ hg ht (ac hg ht _) rfl) ?_;cbv;try rw[hg] at h_1
  try rw[ht] at h_1
  refine⟨⟨(n1,(wrap .i64 (add v1 1)),l5),hs1.1,hs1.2,h_1⟩,Wk.of [(0,some 0),(1,some 435),(2,some 2)] rfl rfl ?_ ?_,Nat.lt_succ_self _⟩
  ·cbv;all_goals exact⟨⟨_,rfl,rfl⟩,⟨_,rfl,rfl⟩,⟨_,rfl,rfl⟩,⟨_,rfl,rfl⟩,trivial⟩
  cbv;all_goals exact⟨⟨_,rfl,_,rfl,rfl,rfl,rfl,trivial⟩,⟨_,rfl,rfl⟩,⟨_,rfl,rfl⟩,trivial⟩
 rintro y1 hy1;replace hy1:=hy1.symm;subst hy1;try dsimp only[lr,lrL,lrp,aZ] at h
 cbv;obtain rfl:=Option.some.inj h;exact ARet.mk ⟨rfl,(ac hg ht _)⟩ hX.symm
def ir71:J:=js [jm 2 (ki 0)] [0] (.seq (js [jm 3 0,jq 4 (.callm 67 true 3 [(ki 9)])] [0,4] (.cond 4 (js [jm 5 0,jq 6 (.callm 125 true 5 []),jm 2 6] [2] .ret) .skip)) (js [jm 7 0,jq 8 (.callm 90 true 7 [(ki 200)]),jb 9 .mul .i (ki 60) 8,jm 2 9] [2] .ret))
def rv71:List RV:=[.t 2]
def rm (g:G) (t:TE) (a0:Cur):Option (Int×Cur):=
 cl (cr g t a0 9) fun x1=>
 br x1.1
 (
  cl (mt g t (Cur.mk x1.2.b x1.2.i x1.2.h)) fun x2=>
  some ((x2.1,(Cur.mk x2.2.b x2.2.i x2.2.h))))
 (
  cl (aF g t (Cur.mk x1.2.b x1.2.i x1.2.h) 200) fun x3=>
  some (((g.wrap .i64 (g.mul 60 x3.1)),(Cur.mk x3.2.b x3.2.i x3.2.h))))
theorem Ca {g:G} {t:TE} {a0:Cur} {r:Int×Cur} (hg:g=G.real) (ht:t=TE.real) (h:rm g t a0=some r):FnM Tryz.prog 71 (.p (Cur.ds t a0)) [] (.c (.r (.v (.int .i64 r.1)))) (.p (Cur.ds t r.2)):=by
 obtain⟨X,hX⟩:=aC (.c (.r (.v (.int .i64 r.1))):X);obtain⟨Y,hY⟩:=aC (.p (Cur.ds t r.2):AM);rw[←hX,←hY];refine eI (rvs:=rv71) (j:=ir71) Tryz.func71 rfl (by kernel_rfl) (nb rfl) (by kernel_rfl) af ?_;intro g2 F hg2 hF;obtain rfl:g2=g:=hg2.unique.trans hg.symm;clear hg2;obtain⟨_⟩:=g2;obtain⟨_⟩:=t
 obtain⟨a0_b,a0_i,a0_h⟩:=a0;unfold rm at h;try dsimp only at h
 cbv;obtain⟨x1,hx1,h⟩:=ae h;obtain⟨x1_1,⟨x1_2_b,x1_2_i,x1_2_h⟩⟩:=x1;try dsimp only at h
 refine ACallM.mk _ _ _ _ rfl rfl (hF _ _ _ (bZ hg ht hx1)) rfl (nb rfl) (nb rfl) ?_;cbv;have hb1:x1_1=true∨x1_1=false:=by cases x1_1<;>simp
 rcases hb1 with hb1|hb1
 ·rw[ab hb1] at h;have hK_:=h;subst hb1;have h:=hK_;clear hK_;cbv;obtain⟨x2,hx2,h⟩:=ae h;obtain⟨x2_1,⟨x2_2_b,x2_2_i,x2_2_h⟩⟩:=x2;try dsimp only at h
  refine ACallM.mk _ _ _ _ rfl rfl (hF _ _ _ (t6 hg ht hx2)) rfl (nb rfl) (nb rfl) ?_;cbv;obtain rfl:=Option.some.inj h;exact ARetM.mk trivial hX.symm hY.symm
 rw[aa hb1] at h;have hK_:=h;subst hb1;have h:=hK_;clear hK_;cbv;obtain⟨x3,hx3,h⟩:=ae h;obtain⟨x3_1,⟨x3_2_b,x3_2_i,x3_2_h⟩⟩:=x3;try dsimp only at h
 refine ACallM.mk _ _ _ _ rfl rfl (hF _ _ _ (ay hg ht hx3)) rfl (nb rfl) (nb rfl) ?_;cbv;obtain rfl:=Option.some.inj h;exact ARetM.mk trivial hX.symm hY.symm
def dI (g:G) (t:TE) (a0:Network) (a1:Fd) (a2:List ByteArray) (a3:List Int) (a4:ByteArray) (a5:Int) (a6:Int):List Leg→Int→Option (LR (Trip×Bool) Unit)
 |[],v1=>
  some (LR.out ())
 |z1::ls1,v1=>
  lP (cJ g t a2 z1.From) fun x1=>
  gd (((0:Int)≤a5))<|
  gt a2 (g.nat a5) fun x2=>
  br (g.seq z1.To x2)
  (
   gd (((0:Int)≤x1))<|
   gt a3 (g.nat x1) fun x3=>
   br (g.lt x3 0)
   (
    dI g t a0 a1 a2 a3 a4 a5 a6 ls1 (g.wrap .i64 (g.add v1 1)))
   (
    gd (((0:Int)≤x1))<|
    lP (ge g t a0 x3 (g.seq z1.From a4)) fun x4=>
    cl (callFd g t a1 v1 x4) fun x5=>
    br x5.2
    (
     cl (jM g t a0 (Trip.mk x5.1.Leg x5.1.Day)) fun x6=>
     br (g.eq x6 a6)
     (
      some (LR.ret (((Trip.mk x5.1.Leg x5.1.Day),true))))
     (
      dI g t a0 a1 a2 a3 a4 a5 a6 ls1 (g.wrap .i64 (g.add v1 1))))
    (
     dI g t a0 a1 a2 a3 a4 a5 a6 ls1 (g.wrap .i64 (g.add v1 1)))))
  (
   dI g t a0 a1 a2 a3 a4 a5 a6 ls1 (g.wrap .i64 (g.add v1 1)))
def tj (g:G) (t:TE) (a0:Network) (a1:Fd) (a2:List ByteArray) (a3:List Int) (a4:ByteArray) (a5:Int) (a6:Int):Option (Trip×Bool):=
 cl (dI g t a0 a1 a2 a3 a4 a5 a6 a0.Legs 0) fun o1=>lr o1 fun y1=>
 some (((Trip.mk 0 0),false))
def i8 (g:G) (t:TE) (y3:List Trip):Nat→List Trip→Int→Option (List Trip)
 |0,_,_=>none
 |n4+1,w3,v6=>
  br (g.le 0 v6)
  (
   gd (((0:Int)≤v6∧v6<(((g.dlen (t.d_Trip y3)):Nat):Int)))<|
   gt y3 (g.nat v6) fun x13=>
   lP ([x13]) fun(l8:List Trip)=>
   gd (((w3.length+l8.length)*16≤70368744177664))<|
   lP (w3++l8) fun(l9:List Trip)=>
   i8 g t y3 n4 l9 (g.wrap .i64 (g.sub v6 1)))
  (
   some w3)
def iR (g:G) (t:TE) (a0:Network) (a1:Fd) (a2:ByteArray) (x1:List ByteArray) (y1:List (List Int)):Nat→Int→Int→Int→List Trip→Option (LR ((List Trip)×Bool) (List Trip))
 |0,_,_,_,_=>none
 |n3+1,v3,v4,v5,w2=>
  br (g.lt 0 v5)
  (
   gt y1 (g.nat (g.wrap .i64 (g.sub v5 1))) fun x8=>
   gd (((0:Int)≤(g.wrap .i64 (g.sub v5 1))∧(g.wrap .i64 (g.sub v5 1))<(((g.dlen (t.d_LI64 y1)):Nat):Int)))<|
   cl (tj g t a0 a1 x1 x8 a2 v3 v4) fun x9=>
   br x9.2
   (
    lP ([(Trip.mk x9.1.Leg x9.1.Day)]) fun(l5:List Trip)=>
    gd (((w2.length+l5.length)*16≤70368744177664))<|
    lP (w2++l5) fun(l6:List Trip)=>
    gd (((0:Int)≤x9.1.Leg))<|
    gt a0.Legs (g.nat x9.1.Leg) fun x10=>
    lP (cJ g t x1 x10.From) fun x11=>
    gd (((0:Int)≤(g.wrap .i64 (g.sub v5 1))∧(g.wrap .i64 (g.sub v5 1))<(((g.dlen (t.d_LI64 y1)):Nat):Int)))<|
    gd (((0:Int)≤x11∧x11<(((g.dlen (t.d_I64 x8)):Nat):Int)))<|
    gt x8 (g.nat x11) fun x12=>
    iR g t a0 a1 a2 x1 y1 n3 x11 x12 (g.wrap .i64 (g.sub v5 1)) l6)
   (
    some (LR.ret (([],false)))))
  (
   some (LR.out w2))
def kA (g:G) (t:TE) (x2:Int) (x5:Int) (y1:List (List Int)):Nat→Int→Option Int
 |0,_=>none
 |n2+1,v2=>
  gt y1 (g.nat v2) fun x6=>
  gd (((0:Int)≤v2∧v2<(((g.dlen (t.d_LI64 y1)):Nat):Int)))<|
  gd (((0:Int)≤x2∧x2<(((g.dlen (t.d_I64 x6)):Nat):Int)))<|
  gt x6 (g.nat x2) fun x7=>
  br (g.eq x7 x5)
  (
   some v2)
  (
   kA g t x2 x5 y1 n2 (g.wrap .i64 (g.add v2 1)))
def fS (g:G) (t:TE) (a0:Network) (a1:Fd) (a2:ByteArray) (a4:Int) (x2:Int):Nat→Int→List (List Int)→Option (LR ((List Trip)×Bool) (List (List Int)))
 |0,v1,w1=>
  some (LR.out w1)
 |n1+1,v1,w1=>
  cl (gV g t a0 a1 a2 a4 v1) fun x3=>
  br (g.eq (g.int (g.dlen (t.d_I64 x3))) 0)
  (
   some (LR.ret (([],false))))
  (
   br (g.lt x2 0)
   (
    some (LR.ret (([],false))))
   (
    lP ([x3]) fun(l2:List (List Int))=>
    gd (((w1.length+l2.length)*24≤70368744177664))<|
    lP (w1++l2) fun(l3:List (List Int))=>
    fS g t a0 a1 a2 a4 x2 n1 (g.wrap .i64 (g.add v1 1)) l3))
def zI (g:G) (t:TE) (a0:Network) (a1:Fd) (a2:ByteArray) (a3:ByteArray) (a4:Int):Option ((List Trip)×Bool):=
 cl (eo g t a0) fun x1=>
 lP (cJ g t x1 a3) fun x2=>
 lP ([]) fun(l1:List (List Int))=>
 gd (((g.int (g.dlen (t.d_S x1)))≤4611686018427387904))<|
 cl (fS g t a0 a1 a2 a4 x2 (eK 0 (g.int (g.dlen (t.d_S x1)))) 0 l1) fun o1=>lr o1 fun y1=>
 gt y1 (g.nat (g.int (g.dlen (t.d_S x1)))) fun x4=>
 gd (((0:Int)≤(g.int (g.dlen (t.d_S x1)))∧(g.int (g.dlen (t.d_S x1)))<(((g.dlen (t.d_LI64 y1)):Nat):Int)))<|
 gd (((0:Int)≤x2∧x2<(((g.dlen (t.d_I64 x4)):Nat):Int)))<|
 gt x4 (g.nat x2) fun x5=>
 br (g.lt x5 0)
 (
  some (([],false)))
 (
  cl (kA g t x2 x5 y1 1000000000 0) fun y2=>
  lP ([]) fun(l4:List Trip)=>
  cl (iR g t a0 a1 a2 x1 y1 1000000000 x2 x5 y2 l4) fun o3=>lr o3 fun y3=>
  lP ([]) fun(l7:List Trip)=>
  cl (i8 g t y3 1000000000 l7 (g.wrap .i64 (g.sub (g.int (g.dlen (t.d_Trip y3))) 1))) fun y4=>
  some ((y4,true)))
def uw (g:G) (t:TE) (a0:Network) (a1:ByteArray) (a2:ByteArray) (a3:Int):Option ((List Trip)×Bool):=
 cl (dF g t a0) fun x1=>
 br x1
 (
  lP (jW g t a0) fun x2=>
  cl (zI g t a0 x2 a1 a2 a3) fun x3=>
  some ((x3.1,x3.2)))
 (
  some (([],false)))
def ir49:J:=js [jq 2 (.alloc [.n 6,.n 1,.r (.v (.int .i64 0))]),jq 3 (.mv (.k (.c (.n 6)))),jm 4 (ki 0),jm 5 (ki 0)] [0,2] (js [jm 8 0,jc 9 64 [8],jm 6 9] [2,6] (js [jm 10 6,jq 11 (.callm 88 false 10 []),jq 7 (.alloc [.n 6,.n 1,.r (.v (.int .i64 0))]),jp (.st 3 7 11)] [2,6,7] (.seq (.reg (some [[],[],[],[1,2],[],[1,2,3,4],[1,2,3,4,5],[],[1,2,3,4,5,7],[0,1,2,3,4,5,7,8],[0,1,2,3,4,5,7,8,9],[0,1,2,3,4,5,6,7,8,9,10],[0,1,2,3,4,5,6,7,8,9,10,11]]) [jl 12 3 7,jm 13 6,jl 14 3 7,jq 15 (.callm 89 false 13 [14]),jm 16 6,jq 17 (.callm 90 true 16 [(ki 3)]),jb 18 .add .i (ki 1) 17,jm 19 6,jq 20 (.callm 71 true 19 []),jp (.st 3 2 12),jm 3 15,jm 4 18,jm 5 20] [2,3,4,5]) .ret)))
def rv49:List RV:=[.c 2 true 3,.t 3,.t 4,.t 5]
def eL (g:G) (t:TE) (a0:List Int):Option (Network×(List Scan)×Int×Int):=
 lP (og g t a0) fun x1=>
 cl (mb g t x1) fun x2=>
 cl (kp g t (Cur.mk x2.2.b x2.2.i x2.2.h) (Network.mk x2.1.Legs x2.1.Off x2.1.Change)) fun x3=>
 cl (aF g t (Cur.mk x3.2.b x3.2.i x3.2.h) 3) fun x4=>
 cl (rm g t (Cur.mk x4.2.b x4.2.i x4.2.h)) fun x5=>
 some (((Network.mk x2.1.Legs x2.1.Off x2.1.Change),x3.1,(g.wrap .i64 (g.add 1 x4.1)),x5.1))
theorem pm {g:G} {t:TE} {a0:List Int} {r:Network×(List Scan)×Int×Int} (hg:g=G.real) (ht:t=TE.real) (h:eL g t a0=some r):Fn Tryz.prog 49 [.c (.s 1 (t.r_U8 a0))] (.u [.g ((Network.rs t r.1).map .r),.c (.r (.s 6 (t.r_Scan r.2.1))),.c (.r (.v (.int .i64 r.2.2.1))),.c (.r (.v (.int .i64 r.2.2.2)))]):=by
 obtain⟨X,hX⟩:=aC (.u [.g ((Network.rs t r.1).map .r),.c (.r (.s 6 (t.r_Scan r.2.1))),.c (.r (.v (.int .i64 r.2.2.1))),.c (.r (.v (.int .i64 r.2.2.2)))]:X);rw[←hX];refine aA (rvs:=rv49) (j:=ir49) Tryz.func49 rfl (by kernel_rfl) (nb rfl) (by kernel_rfl) af ?_;intro g2 F hg2 hF;obtain rfl:g2=g:=hg2.unique.trans hg.symm;clear hg2;obtain⟨_,_,_,_,_,_,_,_,_,_,_,_,_,_,_,_,_,_,_,_,_,_,_,_,_,_,_,_,_,rda⟩:=g2
 obtain⟨_,_,r_Scan,d_Scan,r_Leg,d_Leg,r_I64,d_I64⟩:=t;have hrda_Scan:∀l,rda (d_Scan l)=r_Scan l:=lf hg ht;have hrda_Leg:∀l,rda (d_Leg l)=r_Leg l:=oA hg ht;have hrda_I64:∀l,rda (d_I64 l)=r_I64 l:=mc hg ht;unfold eL at h;try dsimp only at h
 cbv;obtain⟨x1,hx1,h⟩:=ah h;obtain⟨x1_b,x1_i,x1_h⟩:=x1;try dsimp only at h
 refine ACall.mk _ _ rfl (hF _ _ _ (tp hg ht hx1)) (.inl rfl) (nb rfl) ?_;cbv;obtain⟨x2,hx2,h⟩:=ae h;obtain⟨⟨x2_1_Legs,x2_1_Off,x2_1_Change⟩,⟨x2_2_b,x2_2_i,x2_2_h⟩⟩:=x2;try dsimp only at h
 refine ACallMR.mk _ _ _ _ (.g [.r (.s 6 (r_Leg x2_1_Legs)),.r (.s 1 (r_I64 x2_1_Off)),.r (.v (.int .i64 x2_1_Change))]) rfl rfl (hF _ _ _ (tL hg ht hx2)) rfl (nb rfl) (nb rfl) (by cbv;(try simp only[hrda_I64,hrda_Leg])) ?_;cbv;obtain⟨x3,hx3,h⟩:=ae h;obtain⟨x3_1,⟨x3_2_b,x3_2_i,x3_2_h⟩⟩:=x3;try dsimp only at h
 refine ACallMR.mk _ _ _ _ (.c (.r (.s 6 (r_Scan x3_1)))) rfl rfl (hF _ _ _ (rG hg ht hx3)) rfl (nb rfl) (nb rfl) (by cbv;(try simp only[hrda_Scan])) ?_;cbv;obtain⟨x4,hx4,h⟩:=ae h;obtain⟨x4_1,⟨x4_2_b,x4_2_i,x4_2_h⟩⟩:=x4;try dsimp only at h
 refine ACallM.mk _ _ _ _ rfl rfl (hF _ _ _ (ay hg ht hx4)) rfl (nb rfl) (nb rfl) ?_;cbv;obtain⟨x5,hx5,h⟩:=ae h;obtain⟨x5_1,⟨x5_2_b,x5_2_i,x5_2_h⟩⟩:=x5;try dsimp only at h
 refine ACallM.mk _ _ _ _ rfl rfl (hF _ _ _ (Ca hg ht hx5)) rfl (nb rfl) (nb rfl) ?_;cbv;obtain rfl:=Option.some.inj h;exact ARet.mk trivial hX.symm
def ir50:J:=js [jq 4 (.box 0),jq 8 (.alloc [.r (.v (.int .i64 0)),.r (.v (.int .i64 0)),.r (.v (.int .i64 0)),.r (.v (.string .empty)),.r (.v (.int .i64 0)),.r (.v (.int .i64 0))]),jm 9 kf] [1,2,3,4,8] (js [jl 12 3 4,jm 13 1,jm 14 2,jc 15 21 [12,13,14],jm 10 15] [3,8,10] (.seq (js [jm 16 10,jq 17 (.len false 16),jb 18 .sub .i 17 (ki 1),jm 11 18] [3,8,10,11] (.bl 0 (.seq (js [jm 19 11,jb 20 .geq .i 19 (ki 0)] [3,8,10,11,20] (.cond 20 .skip (.exit 0))) (.seq (.block 1 (js [jm 23 10,jm 24 11,ja 25 6 23 24,jf 26 1 25,jk 27 26,jm 28 3,jb 29 .leq .i 27 28] [3,8,10,11,29] (.cond 29 (js [jm 30 10,jm 31 11,ja 32 6 30 31,jl 33 6 32,jp (.st 6 8 33),jm 9 kt] [8,9] .ret) .skip))) (.reg none [jm 21 11,jb 22 .sub .i 21 (ki 1),jm 11 22] [3,8,10,11]))))) (js [jq 34 (.bld [.r (.v (.int .i64 0)),.r (.v (.int .i64 0)),.r (.v (.int .i64 0)),.r (.v (.string .empty)),.r (.v (.int .i64 0)),.r (.v (.int .i64 0))] []),jp (.st 6 8 34),jm 9 kf] [8,9] .ret)))
def rv50:List RV:=[.c 8 true 6,.t 9]
def bG (g:G) (t:TE) (a3:Int) (x1:List Scan):Nat→Int→Option (LR (Scan×Bool) Unit)
 |0,_=>none
 |n1+1,v1=>
  br (g.le 0 v1)
  (
   gd (((0:Int)≤v1∧v1<(((g.dlen (t.d_Scan x1)):Nat):Int)))<|
   gt x1 (g.nat v1) fun x2=>
   br (g.le x2.At a3)
   (
    gd (((0:Int)≤v1∧v1<(((g.dlen (t.d_Scan x1)):Nat):Int)))<|
    some (LR.ret (((Scan.mk x2.Thing x2.At x2.Kind x2.Place (Trip.mk x2.Trip.Leg x2.Trip.Day)),true))))
   (
    bG g t a3 x1 n1 (g.wrap .i64 (g.sub v1 1))))
  (
   some (LR.out ()))
def fL (g:G) (t:TE) (a0:Network) (a1:List Scan) (a2:Int) (a3:Int):Option (Scan×Bool):=
 cl (dk g t a0 a1 a2) fun x1=>
 cl (bG g t a3 x1 1000000000 (g.wrap .i64 (g.sub (g.int (g.dlen (t.d_Scan x1))) 1))) fun o1=>lr o1 fun y1=>
 some (((Scan.mk 0 0 0 ByteArray.empty (Trip.mk 0 0)),false))
theorem uI {g:G} {t:TE} {a0:Network} {a1:List Scan} {a2:Int} {a3:Int} {r:Scan×Bool} (hg:g=G.real) (ht:t=TE.real) (h:fL g t a0 a1 a2 a3=some r):Fn Tryz.prog 50 [.g (Network.rs t a0),.c (.s 6 (t.r_Scan a1)),.c (.v (.int .i64 a2)),.c (.v (.int .i64 a3))] (.u [.g (Scan.ds t r.1),.c (.r (.v (.bool r.2)))]):=by
 obtain⟨X,hX⟩:=aC (.u [.g (Scan.ds t r.1),.c (.r (.v (.bool r.2)))]:X);rw[←hX];refine aA (rvs:=rv50) (j:=ir50) Tryz.func50 rfl (by kernel_rfl) (nb rfl) (by kernel_rfl) af ?_;intro g2 F hg2 hF;obtain rfl:g2=g:=hg2.unique.trans hg.symm;clear hg2;obtain⟨wrap,_,le,_,_,_,_,_,_,_,_,_,int,_,sub,_,_,_,_,_,_,_,_,_,dlen⟩:=g2;obtain⟨_,_,_,d_Scan⟩:=t
 obtain⟨a0_Legs,a0_Off,a0_Change⟩:=a0;unfold fL at h;try dsimp only at h
 cbv;obtain⟨x1,hx1,h⟩:=ae h;try dsimp only at h
 refine ACall.mk _ _ rfl (hF _ _ _ (ik hg ht hx1)) (.inl rfl) (nb rfl) ?_;cbv;obtain⟨o1,ho1,h⟩:=ae h;try dsimp only at h
 try rw[hg] at ho1
 try rw[ht] at ho1
 refine ABL.mk {p:Nat×Int//bG G.real TE.real a3 x1 p.1 p.2=some o1} (fun⟨⟨n1,v1⟩,_⟩=>({sl:=[(3,.c (.r (.v (.int .i64 a3)))),(8,.c (.p 0 6 0 0)),(10,.c (.f 1 6 0 (dlen (d_Scan x1)))),(11,.c (.r (.v (.int .i64 v1))))],tab:=[(0,some (.foc 6 [] [.r (.v (.int .i64 0)),.r (.v (.int .i64 0)),.r (.v (.int .i64 0)),.r (.v (.string ByteArray.empty)),.r (.v (.int .i64 0)),.r (.v (.int .i64 0))] [])),(1,some (.arr 6 (d_Scan x1)))]}:St)) 2 (fun p=>p.1.1) ⟨(1000000000,(wrap .i64 (sub (int (dlen (d_Scan x1))) 1))),ho1⟩ (Unit) (fun _=>({sl:=[(8,.c (.p 0 6 0 0))],tab:=[(0,some (.foc 6 [] [.r (.v (.int .i64 0)),.r (.v (.int .i64 0)),.r (.v (.int .i64 0)),.r (.v (.string ByteArray.empty)),.r (.v (.int .i64 0)),.r (.v (.int .i64 0))] []))]}:St)) 1 (fun y=>o1=LR.out y) ?_ ?_ ?_
 ·refine Wk.of [(0,some 16),(1,some 96)] rfl rfl ?_ ?_
  ·cbv;all_goals exact⟨⟨_,rfl,rfl⟩,⟨_,rfl,rfl⟩,⟨_,rfl,rfl⟩,⟨_,rfl,rfl⟩,trivial⟩
  cbv;all_goals exact⟨⟨_,rfl,_,rfl,rfl,rfl,rfl,rfl,rfl,rfl,trivial⟩,⟨_,rfl,rfl⟩,trivial⟩
 ·rintro⟨⟨n1,v1⟩,h_1⟩ hq1;try dsimp only at h_1
  clear hq1;rcases n1 with _|n1
  ·rw[bG] at h_1;cases h_1
  rw[bG] at h_1;try rw[←hg] at h_1
  try rw[←ht] at h_1
  try dsimp only at h_1
  cbv
  cases hb1:(le 0 v1)
  ·rw[aa hb1] at h_1;cbv;refine⟨(),Wk.of [(0,some 0)] rfl rfl ?_ ?_,(Option.some.inj h_1).symm⟩
   ·cbv;all_goals exact⟨⟨_,rfl,rfl⟩,trivial⟩
   cbv;all_goals exact⟨⟨_,rfl,_,rfl,rfl,rfl,rfl,rfl,rfl,rfl,trivial⟩,trivial⟩
  rw[ab hb1] at h_1;cbv;obtain⟨hc1,h_1⟩:=ak h_1;refine AStep.mk hc1 ?_;cbv;obtain⟨x2,hx2,h_1⟩:=aE h_1;obtain⟨x2_Thing,x2_At,x2_Kind,x2_Place,⟨x2_Trip_Leg,x2_Trip_Day⟩⟩:=x2;try dsimp only at h_1
  refine AGet.mk _ (aO hg ht hx2) ?_;cbv
  cases hb2:(le x2_At a3)
  rotate_left
  ·rw[ab hb2] at h_1;cbv;obtain⟨hc2,h_1⟩:=ak h_1;refine AStep.mk hc2 ?_;cbv;refine AGet.mk _ (aO hg ht hx2) ?_;cbv;obtain rfl:=Option.some.inj h_1;try dsimp only[lr,lrL,lrp,aZ] at h
   obtain rfl:=Option.some.inj h;exact ARet.mk trivial hX.symm
  rw[aa hb2] at h_1;cbv;try rw[hg] at h_1
  try rw[ht] at h_1
  refine⟨⟨(n1,(wrap .i64 (sub v1 1))),h_1⟩,Wk.of [(0,some 0),(1,some 1)] rfl rfl ?_ ?_,Nat.lt_succ_self _⟩
  ·cbv;all_goals exact⟨⟨_,rfl,rfl⟩,⟨_,rfl,rfl⟩,⟨_,rfl,rfl⟩,⟨_,rfl,rfl⟩,trivial⟩
  cbv;all_goals exact⟨⟨_,rfl,_,rfl,rfl,rfl,rfl,rfl,rfl,rfl,trivial⟩,⟨_,rfl,rfl⟩,trivial⟩
 rintro _ hy1;replace hy1:=hy1.symm;subst hy1;try dsimp only[lr,lrL,lrp,aZ] at h
 cbv;obtain rfl:=Option.some.inj h;exact ARet.mk trivial hX.symm
def ir51:J:=js [jq 4 (.box 0),jq 8 (.alloc [.r (.v (.int .i64 0)),.r (.v (.int .i64 0)),.r (.v (.int .i64 0)),.r (.v (.string .empty)),.r (.v (.int .i64 0)),.r (.v (.int .i64 0))]),jm 9 kf] [1,2,3,4,8] (js [jl 12 3 4,jm 13 1,jm 14 2,jc 15 47 [12,13,14],jm 10 15] [3,8,10] (.seq (js [jm 16 10,jq 17 (.len false 16),jb 18 .sub .i 17 (ki 1),jm 11 18] [3,8,10,11] (.bl 0 (.seq (js [jm 19 11,jb 20 .geq .i 19 (ki 0)] [3,8,10,11,20] (.cond 20 .skip (.exit 0))) (.seq (.block 1 (js [jm 23 10,jm 24 11,ja 25 6 23 24,jf 26 1 25,jk 27 26,jm 28 3,jb 29 .leq .i 27 28] [3,8,10,11,29] (.cond 29 (js [jm 30 10,jm 31 11,ja 32 6 30 31,jl 33 6 32,jp (.st 6 8 33),jm 9 kt] [8,9] .ret) .skip))) (.reg none [jm 21 11,jb 22 .sub .i 21 (ki 1),jm 11 22] [3,8,10,11]))))) (js [jq 34 (.bld [.r (.v (.int .i64 0)),.r (.v (.int .i64 0)),.r (.v (.int .i64 0)),.r (.v (.string .empty)),.r (.v (.int .i64 0)),.r (.v (.int .i64 0))] []),jp (.st 6 8 34),jm 9 kf] [8,9] .ret)))
def rv51:List RV:=[.c 8 true 6,.t 9]
def cY (g:G) (t:TE) (a3:Int) (x1:List Scan):Nat→Int→Option (LR (Scan×Bool) Unit)
 |0,_=>none
 |n1+1,v1=>
  br (g.le 0 v1)
  (
   gd (((0:Int)≤v1∧v1<(((g.dlen (t.d_Scan x1)):Nat):Int)))<|
   gt x1 (g.nat v1) fun x2=>
   br (g.le x2.At a3)
   (
    gd (((0:Int)≤v1∧v1<(((g.dlen (t.d_Scan x1)):Nat):Int)))<|
    some (LR.ret (((Scan.mk x2.Thing x2.At x2.Kind x2.Place (Trip.mk x2.Trip.Leg x2.Trip.Day)),true))))
   (
    cY g t a3 x1 n1 (g.wrap .i64 (g.sub v1 1))))
  (
   some (LR.out ()))
def gK (g:G) (t:TE) (a0:Network) (a1:List Scan) (a2:Int) (a3:Int):Option (Scan×Bool):=
 cl (gF g t a0 a1 a2) fun x1=>
 cl (cY g t a3 x1 1000000000 (g.wrap .i64 (g.sub (g.int (g.dlen (t.d_Scan x1))) 1))) fun o1=>lr o1 fun y1=>
 some (((Scan.mk 0 0 0 ByteArray.empty (Trip.mk 0 0)),false))
theorem vf {g:G} {t:TE} {a0:Network} {a1:List Scan} {a2:Int} {a3:Int} {r:Scan×Bool} (hg:g=G.real) (ht:t=TE.real) (h:gK g t a0 a1 a2 a3=some r):Fn Tryz.prog 51 [.g (Network.rs t a0),.c (.s 6 (t.r_Scan a1)),.c (.v (.int .i64 a2)),.c (.v (.int .i64 a3))] (.u [.g (Scan.ds t r.1),.c (.r (.v (.bool r.2)))]):=by
 obtain⟨X,hX⟩:=aC (.u [.g (Scan.ds t r.1),.c (.r (.v (.bool r.2)))]:X);rw[←hX];refine aA (rvs:=rv51) (j:=ir51) Tryz.func51 rfl (by kernel_rfl) (nb rfl) (by kernel_rfl) af ?_;intro g2 F hg2 hF;obtain rfl:g2=g:=hg2.unique.trans hg.symm;clear hg2;obtain⟨wrap,_,le,_,_,_,_,_,_,_,_,_,int,_,sub,_,_,_,_,_,_,_,_,_,dlen⟩:=g2;obtain⟨_,_,_,d_Scan⟩:=t
 obtain⟨a0_Legs,a0_Off,a0_Change⟩:=a0;unfold gK at h;try dsimp only at h
 cbv;obtain⟨x1,hx1,h⟩:=ae h;try dsimp only at h
 refine ACall.mk _ _ rfl (hF _ _ _ (pH hg ht hx1)) (.inl rfl) (nb rfl) ?_;cbv;obtain⟨o1,ho1,h⟩:=ae h;try dsimp only at h
 try rw[hg] at ho1
 try rw[ht] at ho1
 refine ABL.mk {p:Nat×Int//cY G.real TE.real a3 x1 p.1 p.2=some o1} (fun⟨⟨n1,v1⟩,_⟩=>({sl:=[(3,.c (.r (.v (.int .i64 a3)))),(8,.c (.p 0 6 0 0)),(10,.c (.f 1 6 0 (dlen (d_Scan x1)))),(11,.c (.r (.v (.int .i64 v1))))],tab:=[(0,some (.foc 6 [] [.r (.v (.int .i64 0)),.r (.v (.int .i64 0)),.r (.v (.int .i64 0)),.r (.v (.string ByteArray.empty)),.r (.v (.int .i64 0)),.r (.v (.int .i64 0))] [])),(1,some (.arr 6 (d_Scan x1)))]}:St)) 2 (fun p=>p.1.1) ⟨(1000000000,(wrap .i64 (sub (int (dlen (d_Scan x1))) 1))),ho1⟩ (Unit) (fun _=>({sl:=[(8,.c (.p 0 6 0 0))],tab:=[(0,some (.foc 6 [] [.r (.v (.int .i64 0)),.r (.v (.int .i64 0)),.r (.v (.int .i64 0)),.r (.v (.string ByteArray.empty)),.r (.v (.int .i64 0)),.r (.v (.int .i64 0))] []))]}:St)) 1 (fun y=>o1=LR.out y) ?_ ?_ ?_
 ·refine Wk.of [(0,some 16),(1,some 96)] rfl rfl ?_ ?_
  ·cbv;all_goals exact⟨⟨_,rfl,rfl⟩,⟨_,rfl,rfl⟩,⟨_,rfl,rfl⟩,⟨_,rfl,rfl⟩,trivial⟩
  cbv;all_goals exact⟨⟨_,rfl,_,rfl,rfl,rfl,rfl,rfl,rfl,rfl,trivial⟩,⟨_,rfl,rfl⟩,trivial⟩
 ·rintro⟨⟨n1,v1⟩,h_1⟩ hq1;try dsimp only at h_1
  clear hq1;rcases n1 with _|n1
  ·rw[cY] at h_1;cases h_1
  rw[cY] at h_1;try rw[←hg] at h_1
  try rw[←ht] at h_1
  try dsimp only at h_1
  cbv
  cases hb1:(le 0 v1)
  ·rw[aa hb1] at h_1;cbv;refine⟨(),Wk.of [(0,some 0)] rfl rfl ?_ ?_,(Option.some.inj h_1).symm⟩
   ·cbv;all_goals exact⟨⟨_,rfl,rfl⟩,trivial⟩
   cbv;all_goals exact⟨⟨_,rfl,_,rfl,rfl,rfl,rfl,rfl,rfl,rfl,trivial⟩,trivial⟩
  rw[ab hb1] at h_1;cbv;obtain⟨hc1,h_1⟩:=ak h_1;refine AStep.mk hc1 ?_;cbv;obtain⟨x2,hx2,h_1⟩:=aE h_1;obtain⟨x2_Thing,x2_At,x2_Kind,x2_Place,⟨x2_Trip_Leg,x2_Trip_Day⟩⟩:=x2;try dsimp only at h_1
  refine AGet.mk _ (aO hg ht hx2) ?_;cbv
  cases hb2:(le x2_At a3)
  rotate_left
  ·rw[ab hb2] at h_1;cbv;obtain⟨hc2,h_1⟩:=ak h_1;refine AStep.mk hc2 ?_;cbv;refine AGet.mk _ (aO hg ht hx2) ?_;cbv;obtain rfl:=Option.some.inj h_1;try dsimp only[lr,lrL,lrp,aZ] at h
   obtain rfl:=Option.some.inj h;exact ARet.mk trivial hX.symm
  rw[aa hb2] at h_1;cbv;try rw[hg] at h_1
  try rw[ht] at h_1
  refine⟨⟨(n1,(wrap .i64 (sub v1 1))),h_1⟩,Wk.of [(0,some 0),(1,some 1)] rfl rfl ?_ ?_,Nat.lt_succ_self _⟩
  ·cbv;all_goals exact⟨⟨_,rfl,rfl⟩,⟨_,rfl,rfl⟩,⟨_,rfl,rfl⟩,⟨_,rfl,rfl⟩,trivial⟩
  cbv;all_goals exact⟨⟨_,rfl,_,rfl,rfl,rfl,rfl,rfl,rfl,rfl,trivial⟩,⟨_,rfl,rfl⟩,trivial⟩
 rintro _ hy1;replace hy1:=hy1.symm;subst hy1;try dsimp only[lr,lrL,lrp,aZ] at h
 cbv;obtain rfl:=Option.some.inj h;exact ARet.mk trivial hX.symm
end Go.Vs
