/- Part of the proofs of this seat's laws: Laf. No condition. -/
import Derived.Test.YtilplaaijbpilaaGreatTy
import Derived.Test.YtilplaaijbpilaaGreatTIRall
import Derived.Test.YtilplaaijbpilaaGreatLaa
import Derived.Test.YtilplaaijbpilaaGreatLac
import Derived.Test.YtilplaaijbpilaaGreatLad
import Derived.Test.YtilplaaijbpilaaGreatLae
set_option linter.unusedVariables false
set_option linter.unusedSimpArgs false
set_option linter.unusedSectionVars false
namespace Go.Vs
set_option maxRecDepth 100000
def ir12:J:=js [jq 4 (.box 0),jm 8 kf] [1,2,3,4] (js [jm 9 (ki 1048576)] [1,2,3,4,9] (js [jl 18 3 4,jm 19 9,jc 20 15 [18,19],jm 9 20] [1,2,3,4,9] (.seq (js [jm 21 9,jb 22 .lss .i 21 (ki 0)] [1,2,3,4,9,22] (.cond 22 (js [jm 8 kt] [8] .ret) .skip)) (js [jm 23 1,jm 24 9,jc 25 16 [23,24],jm 9 25] [1,2,3,4,9] (.seq (js [jm 26 9,jb 27 .lss .i 26 (ki 0)] [1,2,3,4,27] (.cond 27 (js [jm 8 kt] [8] .ret) .skip)) (js [jl 28 3 4,jq 29 (.call 18 false [28]),jm 30 1,jq 31 (.call 19 false [30]),jm 32 2,jm 33 3,jq 34 (.call 47 false [29,31,32,33]),jq 10 (.alloc [.n 1,.n 2]),jp (.st 2 10 34)] [1,2,3,4,10] (js [jl 35 3 4,jc 36 18 [35],jq 11 (.alloc [.n 6,.n 1,.r (.v (.int .i64 0))]),jp (.st 3 11 36)] [1,2,3,4,10,11] (js [jm 37 1,jc 38 19 [37],jm 12 38] [1,2,3,4,10,11,12] (js [jl 39 3 11,jm 40 12,jm 41 2,jm 42 3,jc 43 48 [39,40,41,42],jq 13 (.alloc [.n 1,.n 2]),jp (.st 2 13 43)] [1,2,3,4,10,11,12,13] (.seq (js [jl 44 2 13,jl 45 2 10,jc 46 49 [44,45],jq 47 (.not 46)] [1,2,3,4,10,11,12,13,47] (.cond 47 (js [jm 8 kf] [8] .ret) .skip)) (.seq (.seq (.reg (some [[],[],[1],[0,1,2],[0,1,2,3]]) [jl 48 3 11,jl 49 3 4,jq 50 (.call 18 false [49]),jc 51 22 [48,50],jq 52 (.not 51)] [1,2,3,4,10,11,12,13,52]) (.cond 52 (js [jm 8 kf] [8] .ret) .skip)) (.seq (js [jm 53 12,jm 54 1,jq 55 (.call 19 false [54]),jc 56 21 [53,55],jq 57 (.not 56)] [1,2,3,4,10,11,12,13,57] (.cond 57 (js [jm 8 kf] [8] .ret) .skip)) (js [jm 14 (ki 1)] [1,2,3,4,10,11,12,13,14] (js [jl 58 3 11,jm 59 14,jq 60 (.callm 23 58 [59]),jm 14 60] [1,2,3,4,10,12,13,14] (js [jm 61 12,jm 62 14,jq 63 (.callm 24 61 [62]),jm 14 63] [1,2,3,4,10,13,14] (.seq (js [jm 64 14,jb 65 .lss .i 64 (ki 0),jm 66 65,jv 67 66 (.ld true 2 13),jv 68 66 (.ld true 2 10),jv 69 66 (.call 49 true [67,68]),jv 70 66 (.not 69),jq 71 (.pick 66 kt 70)] [1,2,3,4,10,13,71] (.cond 71 (js [jm 8 kf] [8] .ret) .skip)) (js [jm 15 (ki 1)] [1,2,3,4,10,13,15] (js [jl 72 2 13,jm 73 15,jq 74 (.callm 50 72 [73]),jm 15 74] [1,2,3,4,10,13,15] (js [jm 16 (ki 1)] [1,2,3,4,10,13,15,16] (js [jl 75 2 13,jm 76 16,jc 77 51 [75,76],jm 16 77] [1,2,3,4,10,13,15,16] (.seq (js [jm 78 16,jb 79 .lss .i 78 (ki 0)] [1,2,3,4,10,13,15,16,79] (.cond 79 (js [jm 8 kf] [8] .ret) .skip)) (.seq (js [jm 80 16,jm 81 15,jb 82 .neq .i 80 81] [1,2,3,4,10,13,15,82] (.cond 82 (js [jm 8 kf] [8] .ret) .skip)) (js [jl 83 3 4,jq 84 (.call 18 false [83]),jm 85 1,jq 86 (.call 19 false [85]),jm 87 2,jm 88 3,jq 89 (.call 48 false [84,86,87,88]),jq 17 (.alloc [.n 1,.n 2]),jp (.st 2 17 89)] [10,13,15,17] (.seq (js [jl 90 2 17,jl 91 2 10,jc 92 49 [90,91],jq 93 (.not 92)] [13,15,93] (.cond 93 (js [jm 8 kf] [8] .ret) .skip)) (js [jm 16 (ki 1)] [13,15,16] (js [jl 94 2 13,jm 95 16,jc 96 51 [94,95],jm 16 96] [15,16] (.seq (js [jm 97 16,jb 98 .lss .i 97 (ki 0)] [15,
 16,98] (.cond 98 (js [jm 8 kf] [8] .ret) .skip)) (.seq (js [jm 99 16,jm 100 15,jb 101 .neq .i 99 100] [101] (.cond 101 (js [jm 8 kf] [8] .ret) .skip)) (js [jm 8 kt] [8] .ret)))))))))))))))))))))))))))))
def rv12:List RV:=[.t 8]
open Go.Proofs Go.IntWalk
set_option linter.unusedVariables false
set_option maxHeartbeats 4000000
def fq (g:G) (t:TE) (a0:Network) (a1:List Scan) (a2:Int) (a3:Int):Option Bool:=
 lP (gD g t a0 1048576) fun x1=>
 br (g.lt x1 0)
 (
  some true)
 (
  lP (jn g t a1 x1) fun x2=>
  br (g.lt x2 0)
  (
   some true)
  (
   cl (cD g t a0) fun x3=>
   cl (dO g t a1) fun x4=>
   cl (jN g t x3 x4 a2 a3) fun x5=>
   cl (cD g t a0) fun x6=>
   cl (dO g t a1) fun x7=>
   cl (go g t x6 x7 a2 a3) fun x8=>
   cl (gq g t x8 x5) fun x9=>
   br x9
   (
    cl (cD g t a0) fun x10=>
    cl (gv g t x6 x10) fun x11=>
    br x11
    (
     cl (dO g t a1) fun x12=>
     cl (ji g t x7 x12) fun x13=>
     br x13
     (
      cl (fh g t x6 1) fun x14=>
      gd ((x14.2.Legs.length=x6.Legs.length))<|
      gd ((x14.2.Off.length=x6.Off.length))<|
      cl (gE g t x7 x14.1) fun x15=>
      gd ((x15.2.length=x7.length))<|
      br (g.lt x15.1 0)
      (
       some false)
      (
       cl (gq g t x8 x5) fun x16=>
       br x16
       (
        cl (gR g t x8 1) fun x17=>
        gd ((x17.2.Places.length=x8.Places.length))<|
        gd ((x17.2.Rides.length=x8.Rides.length))<|
        cl (f5 g t (Belief.mk x17.2.Places x17.2.Rides) 1) fun x18=>
        br (g.lt x18 0)
        (
         some false)
        (
         br (g.eq x18 x17.1)
         (
          cl (cD g t a0) fun x19=>
          cl (dO g t a1) fun x20=>
          cl (go g t x19 x20 a2 a3) fun x21=>
          cl (gq g t x21 x5) fun x22=>
          br x22
          (
           cl (f5 g t (Belief.mk x17.2.Places x17.2.Rides) 1) fun x23=>
           br (g.lt x23 0)
           (
            some false)
           (
            br (g.eq x23 x17.1)
            (
             some true)
            (
             some false)))
          (
           some false))
         (
          some false)))
       (
        some false)))
     (
      some false))
    (
     some false))
   (
    some false)))
theorem m9 {g:G} {t:TE} {a0:Network} {a1:List Scan} {a2:Int} {a3:Int} {r:Bool} (hg:g=G.real) (ht:t=TE.real) (h:fq g t a0 a1 a2 a3=some r):Fn Tryz.prog 12 [.g (Network.rs t a0),.c (.s 6 (t.r_Scan a1)),.c (.v (.int .i64 a2)),.c (.v (.int .i64 a3))] (.c (.r (.v (.bool r)))):=by
 obtain⟨X,hX⟩:=aE (.c (.r (.v (.bool r))):X);rw[←hX];refine au (rvs:=rv12) (j:=ir12) Tryz.func12 rfl (by kernel_rfl) (nb rfl) (by kernel_rfl) ae ?_;intro g2 F hg2 hF;obtain rfl:g2=g:=hg2.unique.trans hg.symm;clear hg2;obtain⟨_,lt,_,eq,_,_,_,_,_,_,_,_,_,_,_,_,_,_,_,_,_,_,_,_,dlen,_,_,_,rd,rda⟩:=g2;obtain⟨r_Leg,d_Leg,r_I64,d_I64,r_Scan,d_Scan,r_S,d_S,r_Trip,d_Trip⟩:=t
 obtain⟨a0_Legs,a0_Off,a0_Change⟩:=a0;have hrda_Leg:∀l,rda (d_Leg l)=r_Leg l:=zY hg ht;have hrda_I64:∀l,rda (d_I64 l)=r_I64 l:=Ah hg ht;have hrda_Scan:∀l,rda (d_Scan l)=r_Scan l:=vP hg ht;have hfr_S:∀l,dc (d_S l)=true:=zz ht;have hrda_S:∀l,rda (d_S l)=r_S l:=E0 hg ht;have hfr_Trip:∀l,dc (d_Trip l)=true:=yQ ht;have hrda_Trip:∀l,rda (d_Trip l)=r_Trip l:=Cm hg ht;unfold fq at h;try dsimp only at h
 cbv;obtain⟨x1,hx1,h⟩:=ak h;try dsimp only at h
 refine ACall.mk _ _ rfl (hF _ _ _ (nq hg ht hx1)) (.inl rfl) (nb rfl) ?_;cbv
 cases hb1:(lt x1 0)
 rotate_left
 ·rw[ab hb1] at h;cbv;obtain rfl:=Option.some.inj h;exact ARet.mk trivial hX.symm
 rw[aa hb1] at h;cbv;obtain⟨x2,hx2,h⟩:=ak h;try dsimp only at h
 refine ACall.mk _ _ rfl (hF _ _ _ (qf hg ht hx2)) (.inl rfl) (nb rfl) ?_;cbv
 cases hb2:(lt x2 0)
 rotate_left
 ·rw[ab hb2] at h;cbv;obtain rfl:=Option.some.inj h;exact ARet.mk trivial hX.symm
 rw[aa hb2] at h;cbv;obtain⟨x3,hx3,h⟩:=ac h;obtain⟨x3_Legs,x3_Off,x3_Change⟩:=x3;try dsimp only at h
 refine ACallR.mk _ _ (.g [.r (.s 6 (r_Leg x3_Legs)),.r (.s 1 (r_I64 x3_Off)),.r (.v (.int .i64 x3_Change))]) rfl (hF _ _ _ (du hg ht hx3)) (.inl rfl) (nb rfl) (by cbv;(try simp only[hrda_I64,hrda_Leg])) ?_;cbv;obtain⟨x4,hx4,h⟩:=ac h;try dsimp only at h
 refine ACallR.mk _ _ (.c (.r (.s 6 (r_Scan x4)))) rfl (hF _ _ _ (eJ hg ht hx4)) (.inl rfl) (nb rfl) (by cbv;(try simp only[hrda_Scan])) ?_;cbv;obtain⟨x5,hx5,h⟩:=ac h;obtain⟨x5_Places,x5_Rides⟩:=x5;try dsimp only at h
 refine ACallR.mk _ _ (.g [.r (.s 1 (r_S x5_Places)),.r (.s 2 (r_Trip x5_Rides))]) rfl (hF _ _ _ (uK hg ht hx5)) (.inl rfl) (nb rfl) (by cbv;(try simp only[hrda_S,hrda_Trip])) ?_;cbv;obtain⟨x6,hx6,h⟩:=ac h;obtain⟨x6_Legs,x6_Off,x6_Change⟩:=x6;try dsimp only at h
 refine ACall.mk _ _ rfl (hF _ _ _ (du hg ht hx6)) (.inl rfl) (nb rfl) ?_;cbv;obtain⟨x7,hx7,h⟩:=ac h;try dsimp only at h
 refine ACall.mk _ _ rfl (hF _ _ _ (eJ hg ht hx7)) (.inl rfl) (nb rfl) ?_;cbv;refine AStep.mk ⟨⟨(og ht (bN hg ht _)),(kL ht (ao hg ht _))⟩,(mX ht (aj hg ht _))⟩ ?_;cbv;obtain⟨x8,hx8,h⟩:=ac h;obtain⟨x8_Places,x8_Rides⟩:=x8;try dsimp only at h
 refine ACall.mk _ _ (by rw[show rd (d_Leg x6_Legs) 0 (dlen (d_Leg x6_Legs))=r_Leg x6_Legs from qV hg ht (bN hg ht _),show rd (d_I64 x6_Off) 0 (dlen (d_I64 x6_Off))=r_I64 x6_Off from m8 hg ht (ao hg ht _),show rd (d_Scan x7) 0 (dlen (d_Scan x7))=r_Scan x7 from oe hg ht (aj hg ht _)];try rfl) (hF _ _ _ (lI hg ht hx8)) (.inr (by simp only[Go.Vs.X.fresh,Go.Vs.X.freshs,iV,d9,Bool.and_self,Belief.ds,hfr_S,hfr_Trip])) (nb rfl) ?_
 cbv;refine AStep.mk ⟨(dN ht (al hg ht _)),(mR ht (a7 hg ht _))⟩ ?_;cbv;obtain⟨x9,hx9,h⟩:=ac h;try dsimp only at h
 refine ACall.mk _ _ (by rw[show rd (d_S x8_Places) 0 (dlen (d_S x8_Places))=r_S x8_Places from f7 hg ht (al hg ht _),show rd (d_Trip x8_Rides) 0 (dlen (d_Trip x8_Rides))=r_Trip x8_Rides from oQ hg ht (a7 hg ht _)];try rfl) (hF _ _ _ (lF hg ht hx9)) (.inr rfl) (nb rfl) ?_
 cbv
 cases hb3:x9
 ·rw[aa hb3] at h;cbv;obtain rfl:=Option.some.inj h;exact ARet.mk trivial hX.symm
 rw[ab hb3] at h;cbv;obtain⟨x10,hx10,h⟩:=ac h;obtain⟨x10_Legs,x10_Off,x10_Change⟩:=x10;try dsimp only at h
 refine ACallR.mk _ _ (.g [.r (.s 6 (r_Leg x10_Legs)),.r (.s 1 (r_I64 x10_Off)),.r (.v (.int .i64 x10_Change))]) rfl (hF _ _ _ (du hg ht hx10)) (.inl rfl) (nb rfl) (by cbv;(try simp only[hrda_I64,hrda_Leg])) ?_;cbv;refine AStep.mk ⟨(og ht (bN hg ht _)),(kL ht (ao hg ht _))⟩ ?_;cbv;obtain⟨x11,hx11,h⟩:=ac h;try dsimp only at h
 refine ACall.mk _ _ (by rw[show rd (d_Leg x6_Legs) 0 (dlen (d_Leg x6_Legs))=r_Leg x6_Legs from qV hg ht (bN hg ht _),show rd (d_I64 x6_Off) 0 (dlen (d_I64 x6_Off))=r_I64 x6_Off from m8 hg ht (ao hg ht _)];try rfl) (hF _ _ _ (nj hg ht hx11)) (.inr rfl) (nb rfl) ?_
 cbv
 cases hb4:x11
 ·rw[aa hb4] at h;cbv;obtain rfl:=Option.some.inj h;exact ARet.mk trivial hX.symm
 rw[ab hb4] at h;cbv;obtain⟨x12,hx12,h⟩:=ac h;try dsimp only at h
 refine ACallR.mk _ _ (.c (.r (.s 6 (r_Scan x12)))) rfl (hF _ _ _ (eJ hg ht hx12)) (.inl rfl) (nb rfl) (by cbv;(try simp only[hrda_Scan])) ?_;cbv;refine AStep.mk (mX ht (aj hg ht _)) ?_;cbv;obtain⟨x13,hx13,h⟩:=ac h;try dsimp only at h
 refine ACall.mk _ _ (by rw[show rd (d_Scan x7) 0 (dlen (d_Scan x7))=r_Scan x7 from oe hg ht (aj hg ht _)];try rfl) (hF _ _ _ (ql hg ht hx13)) (.inr rfl) (nb rfl) ?_
 cbv
 cases hb5:x13
 ·rw[aa hb5] at h;cbv;obtain rfl:=Option.some.inj h;exact ARet.mk trivial hX.symm
 rw[ab hb5] at h;cbv;refine AStep.mk ⟨⟨rfl,(bN hg ht _)⟩,⟨rfl,(ao hg ht _)⟩⟩ ?_;cbv;obtain⟨x14,hx14,h⟩:=ac h;obtain⟨x14_1,⟨x14_2_Legs,x14_2_Off,x14_2_Change⟩⟩:=x14;try dsimp only at h
 refine ACallM.mk _ _ _ _ rfl rfl (hF _ _ _ (lK hg ht hx14)) rfl (nb rfl) (nb rfl) ?_;cbv;obtain⟨hc1,h⟩:=ah h;obtain⟨hc2,h⟩:=ah h;refine AStep.mk ⟨rfl,(aj hg ht _)⟩ ?_;cbv;obtain⟨x15,hx15,h⟩:=ac h;obtain⟨x15_1,x15_2⟩:=x15;try dsimp only at h
 refine ACallM.mk _ _ _ _ rfl rfl (hF _ _ _ (nk hg ht hx15)) rfl (nb rfl) (nb rfl) ?_;cbv;obtain⟨hc3,h⟩:=ah h
 cases hb6:(lt x15_1 0)
 rotate_left
 ·rw[ab hb6] at h;cbv;iterate 4 try(rw[hb6];cbv)
  obtain rfl:=Option.some.inj h;exact ARet.mk trivial hX.symm
 rw[aa hb6] at h;cbv;iterate 2 try(rw[hb6];cbv)
 refine AStep.mk ⟨(dN ht (al hg ht _)),(mR ht (a7 hg ht _))⟩ ?_;cbv;obtain⟨x16,hx16,h⟩:=ac h;try dsimp only at h
 refine ACall.mk _ _ (by rw[show rd (d_S x8_Places) 0 (dlen (d_S x8_Places))=r_S x8_Places from f7 hg ht (al hg ht _),show rd (d_Trip x8_Rides) 0 (dlen (d_Trip x8_Rides))=r_Trip x8_Rides from oQ hg ht (a7 hg ht _)];try rfl) (hF _ _ _ (lF hg ht hx16)) (.inr rfl) (nb rfl) ?_
 cbv;iterate 2 try(rw[hb6];cbv)
 cases hb7:x16
 ·rw[aa hb7] at h;cbv;obtain rfl:=Option.some.inj h;exact ARet.mk trivial hX.symm
 rw[ab hb7] at h;cbv;refine AStep.mk ⟨⟨rfl,(al hg ht _)⟩,⟨rfl,(a7 hg ht _)⟩⟩ ?_;cbv;obtain⟨x17,hx17,h⟩:=ac h;obtain⟨x17_1,⟨x17_2_Places,x17_2_Rides⟩⟩:=x17;try dsimp only at h
 refine ACallM.mk _ _ _ _ rfl rfl (hF _ _ _ (si hg ht hx17)) rfl (nb rfl) (nb rfl) ?_;cbv;obtain⟨hc4,h⟩:=ah h;obtain⟨hc5,h⟩:=ah h;refine AStep.mk ⟨(dN ht (jM ht (al hg ht _) hc4)),(mR ht (jB ht (a7 hg ht _) hc5))⟩ ?_;cbv;obtain⟨x18,hx18,h⟩:=ac h;try dsimp only at h
 refine ACall.mk _ _ (by rw[show rd (d_S x17_2_Places) 0 (dlen (d_S x8_Places))=r_S x17_2_Places from f7 hg ht (jM ht (al hg ht _) hc4),show rd (d_Trip x17_2_Rides) 0 (dlen (d_Trip x8_Rides))=r_Trip x17_2_Rides from oQ hg ht (jB ht (a7 hg ht _) hc5)];try rfl) (hF _ _ _ (lZ hg ht hx18)) (.inr rfl) (nb rfl) ?_
 cbv
 cases hb8:(lt x18 0)
 rotate_left
 ·rw[ab hb8] at h;cbv;obtain rfl:=Option.some.inj h;exact ARet.mk trivial hX.symm
 rw[aa hb8] at h;cbv
 cases hb9:(eq x18 x17_1)
 ·rw[aa hb9] at h;cbv;obtain rfl:=Option.some.inj h;exact ARet.mk trivial hX.symm
 rw[ab hb9] at h;cbv;obtain⟨x19,hx19,h⟩:=ac h;obtain⟨x19_Legs,x19_Off,x19_Change⟩:=x19;try dsimp only at h
 refine ACallR.mk _ _ (.g [.r (.s 6 (r_Leg x19_Legs)),.r (.s 1 (r_I64 x19_Off)),.r (.v (.int .i64 x19_Change))]) rfl (hF _ _ _ (du hg ht hx19)) (.inl rfl) (nb rfl) (by cbv;(try simp only[hrda_I64,hrda_Leg])) ?_;cbv;obtain⟨x20,hx20,h⟩:=ac h;try dsimp only at h
 refine ACallR.mk _ _ (.c (.r (.s 6 (r_Scan x20)))) rfl (hF _ _ _ (eJ hg ht hx20)) (.inl rfl) (nb rfl) (by cbv;(try simp only[hrda_Scan])) ?_;cbv;obtain⟨x21,hx21,h⟩:=ac h;obtain⟨x21_Places,x21_Rides⟩:=x21;try dsimp only at h
 refine ACallR.mk _ _ (.g [.r (.s 1 (r_S x21_Places)),.r (.s 2 (r_Trip x21_Rides))]) rfl (hF _ _ _ (lI hg ht hx21)) (.inl rfl) (nb rfl) (by cbv;(try simp only[hrda_S,hrda_Trip])) ?_;cbv;obtain⟨x22,hx22,h⟩:=ac h;try dsimp only at h
 refine ACall.mk _ _ rfl (hF _ _ _ (lF hg ht hx22)) (.inl rfl) (nb rfl) ?_;cbv
 cases hb10:x22
 ·rw[aa hb10] at h;cbv;obtain rfl:=Option.some.inj h;exact ARet.mk trivial hX.symm
 rw[ab hb10] at h;cbv;refine AStep.mk ⟨(dN ht (jM ht (al hg ht _) hc4)),(mR ht (jB ht (a7 hg ht _) hc5))⟩ ?_;cbv;obtain⟨x23,hx23,h⟩:=ac h;try dsimp only at h
 refine ACall.mk _ _ (by rw[show rd (d_S x17_2_Places) 0 (dlen (d_S x8_Places))=r_S x17_2_Places from f7 hg ht (jM ht (al hg ht _) hc4),show rd (d_Trip x17_2_Rides) 0 (dlen (d_Trip x8_Rides))=r_Trip x17_2_Rides from oQ hg ht (jB ht (a7 hg ht _) hc5)];try rfl) (hF _ _ _ (lZ hg ht hx23)) (.inr rfl) (nb rfl) ?_
 cbv
 cases hb11:(lt x23 0)
 rotate_left
 ·rw[ab hb11] at h;cbv;obtain rfl:=Option.some.inj h;exact ARet.mk trivial hX.symm
 rw[aa hb11] at h;cbv
 cases hb12:(eq x23 x17_1)
 rotate_left
 ·rw[ab hb12] at h;cbv;obtain rfl:=Option.some.inj h;exact ARet.mk trivial hX.symm
 rw[aa hb12] at h;cbv;obtain rfl:=Option.some.inj h;exact ARet.mk trivial hX.symm
end Go.Vs
