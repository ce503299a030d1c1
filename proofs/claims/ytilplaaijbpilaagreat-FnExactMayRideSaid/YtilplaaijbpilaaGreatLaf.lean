/- Part of the proofs of this seat's laws: Laf. No condition. -/
import Derived.Test.YtilplaaijbpilaaGreatTy
import Derived.Test.YtilplaaijbpilaaGreatTIRall
import Derived.Test.YtilplaaijbpilaaGreatLad
import Derived.Test.YtilplaaijbpilaaGreatLaa
import Derived.Test.YtilplaaijbpilaaGreatLac
import Derived.Test.YtilplaaijbpilaaGreatLab
set_option linter.unusedVariables false
set_option linter.unusedSimpArgs false
set_option linter.unusedSectionVars false
namespace Go.Vs
set_option maxRecDepth 100000
def ir40:J:=js [jq 4 (.box 0),jm 8 (ki 0)] [1,2,3,4] (js [jl 11 3 4,jm 12 1,jm 13 2,jc 14 33 [11,12,13],jm 9 14] [3,4,9] (js [jm 15 9,jq 16 (.len false 15),jb 17 .sub .i 16 (ki 1),jm 10 17] [3,4,9,10] (.seq (js [jm 18 10,jb 19 .lss .i 18 (ki 0),jm 20 19,jv 21 20 (.mv 9),jv 22 20 (.mv 10),jv 23 20 (.ia 6 21 22),jv 24 20 (.fa 2 23),jv 25 20 (.ld false 1 24),jv 26 20 (.bin .eql .i 25 (ki 4)),jq 27 (.pick 20 kt 26),jm 28 27,jv 29 28 (.ld true 3 4),jv 30 28 (.call 78 true [29]),jv 31 28 (.mv 3),jv 32 28 (.call 77 true [30,31]),jv 33 28 (.bin .lss .i 32 (ki 0)),jq 34 (.pick 28 kt 33)] [3,4,9,10,34] (.cond 34 (js [jq 8 (.mv (.k (V.i (-1))))] [8] .ret) .skip)) (.seq (.reg (some [[],[],[],[],[2,3],[2,3,4],[1,2,3,4,5],[],[0,1,2,3,4,5,6,7],[0,1,2,3,4,5,6,7,8]]) [jl 35 3 4,jl 36 3 4,jm 37 9,jm 38 10,ja 39 6 37 38,jl 40 6 39,jc 41 80 [36,40],jm 42 3,jc 43 79 [35,41,42],jm 8 43] [8]) .ret))))
def rv40:List RV:=[.t 8]
open Go.Proofs Go.IntWalk
set_option linter.unusedVariables false
set_option maxHeartbeats 4000000
def kB (g:G) (t:TE) (a0:Network) (a1:List Scan) (a2:Int) (a3:ByteArray):Option Int:=
 cl (jd g t a0 a1 a2) fun x1=>
 br (g.lt (g.wrap .i64 (g.sub (g.int (g.dlen (t.d_Scan x1))) 1)) 0)
 (
  some (-1))
 (
  gd (((0:Int)≤(g.wrap .i64 (g.sub (g.int (g.dlen (t.d_Scan x1))) 1))∧(g.wrap .i64 (g.sub (g.int (g.dlen (t.d_Scan x1))) 1))<(((g.dlen (t.d_Scan x1)):Nat):Int)))<|
  gt x1 (g.nat (g.wrap .i64 (g.sub (g.int (g.dlen (t.d_Scan x1))) 1))) fun x2=>
  br (g.eq x2.Kind 4)
  (
   some (-1))
  (
   cl (dU g t a0) fun x3=>
   lP (eQ g t x3 a3) fun x4=>
   br (g.lt x4 0)
   (
    some (-1))
   (
    gd (((0:Int)≤(g.wrap .i64 (g.sub (g.int (g.dlen (t.d_Scan x1))) 1))∧(g.wrap .i64 (g.sub (g.int (g.dlen (t.d_Scan x1))) 1))<(((g.dlen (t.d_Scan x1)):Nat):Int)))<|
    cl (aV g t a0 (Scan.mk x2.Thing x2.At x2.Kind x2.Place (Trip.mk x2.Trip.Leg x2.Trip.Day))) fun x5=>
    cl (bC g t a0 x5 a3) fun x6=>
    some x6)))
theorem uD {g:G} {t:TE} {a0:Network} {a1:List Scan} {a2:Int} {a3:ByteArray} {r:Int} (hg:g=G.real) (ht:t=TE.real) (h:kB g t a0 a1 a2 a3=some r):Fn Tryz.prog 40 [.g (Network.rs t a0),.c (.s 6 (t.r_Scan a1)),.c (.v (.int .i64 a2)),.c (.v (.string a3))] (.c (.r (.v (.int .i64 r)))):=by
 obtain⟨X,hX⟩:=aH (.c (.r (.v (.int .i64 r))):X);rw[←hX];refine aw (rvs:=rv40) (j:=ir40) Tryz.func40 rfl (by kernel_rfl) (nb rfl) (by kernel_rfl) af ?_;intro g2 F hg2 hF;obtain rfl:g2=g:=hg2.unique.trans hg.symm;clear hg2;obtain⟨wrap,lt,_,eq,_,_,_,_,_,_,_,_,int,_,sub,_,_,_,_,_,_,_,_,_,dlen,_,_,_,rd⟩:=g2;obtain⟨_,_,_,_,_,d_Scan,r_S,d_S⟩:=t
 obtain⟨a0_Legs,a0_Off,a0_Change⟩:=a0;unfold kB at h;try dsimp only at h
 cbv;obtain⟨x1,hx1,h⟩:=ac h;try dsimp only at h
 refine ACall.mk _ _ rfl (hF _ _ _ (mb hg ht hx1)) (.inl rfl) (nb rfl) ?_;cbv
 cases hb1:(lt (wrap .i64 (sub (int (dlen (d_Scan x1))) 1)) 0)
 rotate_left
 ·rw[ab hb1] at h;cbv;iterate 6 try(rw[hb1];cbv)
  obtain rfl:=Option.some.inj h;exact ARet.mk trivial hX.symm
 rw[aa hb1] at h;cbv;iterate 2 try(rw[hb1];cbv)
 obtain⟨hc1,h⟩:=al h;refine AStep.mk hc1 ?_;cbv;iterate 2 try(rw[hb1];cbv)
 obtain⟨x2,hx2,h⟩:=aE h;obtain⟨x2_Thing,x2_At,x2_Kind,x2_Place,⟨x2_Trip_Leg,x2_Trip_Day⟩⟩:=x2;try dsimp only at h
 refine AGet.mk _ (aG hg ht hx2) ?_;cbv;iterate 2 try(rw[hb1];cbv)
 cases hb2:(eq x2_Kind 4)
 rotate_left
 ·rw[ab hb2] at h;cbv;iterate 5 try(rw[hb2];cbv)
  obtain rfl:=Option.some.inj h;exact ARet.mk trivial hX.symm
 rw[aa hb2] at h;cbv;try(rw[hb2];cbv)
 obtain⟨x3,hx3,h⟩:=ac h;try dsimp only at h
 refine ACall.mk _ _ rfl (hF _ _ _ (fg hg ht hx3)) (.inl rfl) (nb rfl) ?_;cbv;iterate 2 try(rw[hb2];cbv)
 refine AStep.mk (dN ht (aq hg ht _)) ?_;cbv;obtain⟨x4,hx4,h⟩:=ak h;try dsimp only at h
 refine ACall.mk _ _ (by rw[show rd (d_S x3) 0 (dlen (d_S x3))=r_S x3 from fK hg ht (aq hg ht _)];try rfl) (hF _ _ _ (fR hg ht hx4)) (.inr rfl) (nb rfl) ?_
 cbv;iterate 2 try(rw[hb2];cbv)
 cases hb3:(lt x4 0)
 rotate_left
 ·rw[ab hb3] at h;cbv;obtain rfl:=Option.some.inj h;exact ARet.mk trivial hX.symm
 rw[aa hb3] at h;cbv;obtain⟨hc2,h⟩:=al h;refine AStep.mk hc2 ?_;cbv;refine AGet.mk _ (aG hg ht hx2) ?_;cbv;obtain⟨x5,hx5,h⟩:=ac h;obtain⟨x5_Place,x5_At⟩:=x5;try dsimp only at h
 refine ACall.mk _ _ rfl (hF _ _ _ (a7 hg ht hx5)) (.inl rfl) (nb rfl) ?_;cbv;obtain⟨x6,hx6,h⟩:=ac h;try dsimp only at h
 refine ACall.mk _ _ rfl (hF _ _ _ (bw hg ht hx6)) (.inl rfl) (nb rfl) ?_;cbv;obtain rfl:=Option.some.inj h;exact ARet.mk trivial hX.symm
def ir84:J:=js [jq 4 (.box 0),jm 8 (ki 0)] [1,2,3,4] (.seq (js [jm 9 1,jm 10 3,jb 11 .eql .s 9 10] [1,2,3,4,11] (.cond 11 (js [jm 12 2,jm 8 12] [8] .ret) .skip)) (js [jl 13 3 4,jm 14 1,jm 15 3,jm 16 2,jc 17 122 [13,14,15,16],jm 8 17] [8] .ret))
def rv84:List RV:=[.t 8]
def kA (g:G) (t:TE) (a0:Network) (a1:ByteArray) (a2:Int) (a3:ByteArray):Option Int:=
 br (g.seq a1 a3)
 (
  some a2)
 (
  cl (fV g t a0 a1 a3 a2) fun x1=>
  some x1)
theorem uC {g:G} {t:TE} {a0:Network} {a1:ByteArray} {a2:Int} {a3:ByteArray} {r:Int} (hg:g=G.real) (ht:t=TE.real) (h:kA g t a0 a1 a2 a3=some r):Fn Tryz.prog 84 [.g (Network.rs t a0),.c (.v (.string a1)),.c (.v (.int .i64 a2)),.c (.v (.string a3))] (.c (.r (.v (.int .i64 r)))):=by
 obtain⟨X,hX⟩:=aH (.c (.r (.v (.int .i64 r))):X);rw[←hX];refine aw (rvs:=rv84) (j:=ir84) Tryz.func84 rfl (by kernel_rfl) (nb rfl) (by kernel_rfl) af ?_;intro g2 F hg2 hF;obtain rfl:g2=g:=hg2.unique.trans hg.symm;clear hg2;obtain⟨_,_,_,_,_,_,_,_,_,_,_,_,_,_,_,_,_,seq⟩:=g2;obtain⟨_⟩:=t
 obtain⟨a0_Legs,a0_Off,a0_Change⟩:=a0;unfold kA at h;try dsimp only at h
 cbv
 cases hb1:(seq a1 a3)
 rotate_left
 ·rw[ab hb1] at h;cbv;obtain rfl:=Option.some.inj h;exact ARet.mk trivial hX.symm
 rw[aa hb1] at h;cbv;obtain⟨x1,hx1,h⟩:=ac h;try dsimp only at h
 refine ACall.mk _ _ rfl (hF _ _ _ (lw hg ht hx1)) (.inl rfl) (nb rfl) ?_;cbv;obtain rfl:=Option.some.inj h;exact ARet.mk trivial hX.symm
def ir41:J:=js [jq 4 (.box 0),jm 8 (ki 0)] [1,2,3,4] (js [jl 11 3 4,jm 12 1,jm 13 2,jc 14 34 [11,12,13],jm 9 14] [3,4,9] (.seq (js [jm 15 9,jq 16 (.len false 15),jb 17 .eql .i 16 (ki 0),jm 18 17,jv 19 18 (.mv 9),jv 20 18 (.mv 9),jv 21 18 (.len false 20),jv 22 18 (.bin .sub .i 21 (ki 1)),jv 23 18 (.ia 6 19 22),jv 24 18 (.fa 2 23),jv 25 18 (.ld false 1 24),jv 26 18 (.bin .eql .i 25 (ki 4)),jq 27 (.pick 18 kt 26),jm 28 27,jv 29 28 (.ld true 3 4),jv 30 28 (.call 82 true [29]),jv 31 28 (.mv 3),jv 32 28 (.call 81 true [30,31]),jv 33 28 (.bin .lss .i 32 (ki 0)),jq 34 (.pick 28 kt 33)] [3,4,9,34] (.cond 34 (js [jq 8 (.mv (.k (V.i (-1))))] [8] .ret) .skip)) (.seq (.reg (some [[],[],[],[2],[2,3],[1,2,3,4],[1,2,3,4,5],[0,1,2,3,4,5,6],[],[0,1,2,3,4,5,6,7,8]]) [jl 35 3 4,jm 36 9,jm 37 9,jq 38 (.len false 37),jb 39 .sub .i 38 (ki 1),ja 40 6 36 39,jl 41 6 40,jc 42 83 [35,41],jq 10 (.alloc [.r (.v (.string .empty)),.r (.v (.int .i64 0))]),jp (.st 2 10 42)] [3,4,10]) (js [jl 43 3 4,jf 44 0 10,jk 45 44,jf 46 1 10,jk 47 46,jm 48 3,jc 49 84 [43,45,47,48],jm 8 49] [8] .ret))))
def rv41:List RV:=[.t 8]
def kz (g:G) (t:TE) (a0:Network) (a1:List Scan) (a2:Int) (a3:ByteArray):Option Int:=
 cl (hP g t a0 a1 a2) fun x1=>
 br (g.eq (g.int (g.dlen (t.d_Scan x1))) 0)
 (
  some (-1))
 (
  gd (((0:Int)≤(g.wrap .i64 (g.sub (g.int (g.dlen (t.d_Scan x1))) 1))∧(g.wrap .i64 (g.sub (g.int (g.dlen (t.d_Scan x1))) 1))<(((g.dlen (t.d_Scan x1)):Nat):Int)))<|
  gt x1 (g.nat (g.wrap .i64 (g.sub (g.int (g.dlen (t.d_Scan x1))) 1))) fun x2=>
  br (g.eq x2.Kind 4)
  (
   some (-1))
  (
   cl (eK g t a0) fun x3=>
   lP (eE g t x3 a3) fun x4=>
   br (g.lt x4 0)
   (
    some (-1))
   (
    gd (((0:Int)≤(g.wrap .i64 (g.sub (g.int (g.dlen (t.d_Scan x1))) 1))∧(g.wrap .i64 (g.sub (g.int (g.dlen (t.d_Scan x1))) 1))<(((g.dlen (t.d_Scan x1)):Nat):Int)))<|
    cl (bJ g t a0 (Scan.mk x2.Thing x2.At x2.Kind x2.Place (Trip.mk x2.Trip.Leg x2.Trip.Day))) fun x5=>
    cl (kA g t a0 x5.Place x5.At a3) fun x6=>
    some x6)))
theorem uG {g:G} {t:TE} {a0:Network} {a1:List Scan} {a2:Int} {a3:ByteArray} {r:Int} (hg:g=G.real) (ht:t=TE.real) (h:kz g t a0 a1 a2 a3=some r):Fn Tryz.prog 41 [.g (Network.rs t a0),.c (.s 6 (t.r_Scan a1)),.c (.v (.int .i64 a2)),.c (.v (.string a3))] (.c (.r (.v (.int .i64 r)))):=by
 obtain⟨X,hX⟩:=aH (.c (.r (.v (.int .i64 r))):X);rw[←hX];refine aw (rvs:=rv41) (j:=ir41) Tryz.func41 rfl (by kernel_rfl) (nb rfl) (by kernel_rfl) af ?_;intro g2 F hg2 hF;obtain rfl:g2=g:=hg2.unique.trans hg.symm;clear hg2;obtain⟨_,lt,_,eq,_,_,_,_,_,_,_,_,int,_,_,_,_,_,_,_,_,_,_,_,dlen,_,_,_,rd⟩:=g2;obtain⟨_,_,_,_,_,d_Scan,r_S,d_S⟩:=t
 obtain⟨a0_Legs,a0_Off,a0_Change⟩:=a0;unfold kz at h;try dsimp only at h
 cbv;obtain⟨x1,hx1,h⟩:=ac h;try dsimp only at h
 refine ACall.mk _ _ rfl (hF _ _ _ (kC hg ht hx1)) (.inl rfl) (nb rfl) ?_;cbv
 cases hb1:(eq (int (dlen (d_Scan x1))) 0)
 rotate_left
 ·rw[ab hb1] at h;cbv;iterate 8 try(rw[hb1];cbv)
  obtain rfl:=Option.some.inj h;exact ARet.mk trivial hX.symm
 rw[aa hb1] at h;cbv;iterate 4 try(rw[hb1];cbv)
 obtain⟨hc1,h⟩:=al h;refine AStep.mk hc1 ?_;cbv;iterate 2 try(rw[hb1];cbv)
 obtain⟨x2,hx2,h⟩:=aE h;obtain⟨x2_Thing,x2_At,x2_Kind,x2_Place,⟨x2_Trip_Leg,x2_Trip_Day⟩⟩:=x2;try dsimp only at h
 refine AGet.mk _ (aG hg ht hx2) ?_;cbv;iterate 2 try(rw[hb1];cbv)
 cases hb2:(eq x2_Kind 4)
 rotate_left
 ·rw[ab hb2] at h;cbv;iterate 5 try(rw[hb2];cbv)
  obtain rfl:=Option.some.inj h;exact ARet.mk trivial hX.symm
 rw[aa hb2] at h;cbv;try(rw[hb2];cbv)
 obtain⟨x3,hx3,h⟩:=ac h;try dsimp only at h
 refine ACall.mk _ _ rfl (hF _ _ _ (gg hg ht hx3)) (.inl rfl) (nb rfl) ?_;cbv;iterate 2 try(rw[hb2];cbv)
 refine AStep.mk (dN ht (aq hg ht _)) ?_;cbv;obtain⟨x4,hx4,h⟩:=ak h;try dsimp only at h
 refine ACall.mk _ _ (by rw[show rd (d_S x3) 0 (dlen (d_S x3))=r_S x3 from fK hg ht (aq hg ht _)];try rfl) (hF _ _ _ (fQ hg ht hx4)) (.inr rfl) (nb rfl) ?_
 cbv;iterate 2 try(rw[hb2];cbv)
 cases hb3:(lt x4 0)
 rotate_left
 ·rw[ab hb3] at h;cbv;obtain rfl:=Option.some.inj h;exact ARet.mk trivial hX.symm
 rw[aa hb3] at h;cbv;obtain⟨hc2,h⟩:=al h;refine AStep.mk hc2 ?_;cbv;refine AGet.mk _ (aG hg ht hx2) ?_;cbv;obtain⟨x5,hx5,h⟩:=ac h;obtain⟨x5_Place,x5_At⟩:=x5;try dsimp only at h
 refine ACall.mk _ _ rfl (hF _ _ _ (cr hg ht hx5)) (.inl rfl) (nb rfl) ?_;cbv;obtain⟨x6,hx6,h⟩:=ac h;try dsimp only at h
 refine ACall.mk _ _ rfl (hF _ _ _ (uC hg ht hx6)) (.inl rfl) (nb rfl) ?_;cbv;obtain rfl:=Option.some.inj h;exact ARet.mk trivial hX.symm
end Go.Vs
