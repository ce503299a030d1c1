/- Part of the proofs of this seat's laws: Lag. No condition. -/
import Derived.Test.YtilplaaijbpilaaGreatTy
import Derived.Test.YtilplaaijbpilaaGreatTIRall
import Derived.Test.YtilplaaijbpilaaGreatLaa
import Derived.Test.YtilplaaijbpilaaGreatLae
set_option linter.unusedVariables false
set_option linter.unusedSimpArgs false
set_option linter.unusedSectionVars false
namespace Go.Vs
set_option maxRecDepth 100000
def ir14:J:=js [jq 5 (.box 0),jm 10 kf] [1,2,3,4,5] (js [jm 11 (ki 1048576)] [1,2,3,4,5,11] (js [jl 20 3 5,jm 21 11,jc 22 15 [20,21],jm 11 22] [1,2,3,4,5,11] (.seq (js [jm 23 11,jb 24 .lss .i 23 (ki 0)] [1,2,3,4,5,11,24] (.cond 24 (js [jm 10 kt] [10] .ret) .skip)) (js [jm 25 1,jm 26 11,jc 27 16 [25,26],jm 11 27] [1,2,3,4,5,11] (.seq (js [jm 28 11,jb 29 .lss .i 28 (ki 0)] [1,2,3,4,5,29] (.cond 29 (js [jm 10 kt] [10] .ret) .skip)) (js [jl 30 3 5,jq 31 (.call 18 false [30]),jm 32 1,jq 33 (.call 19 false [32]),jm 34 2,jm 35 3,jm 36 4,jq 37 (.call 54 false [31,33,34,35,36]),jm 12 37] [1,2,3,4,5,12] (js [jl 38 3 5,jc 39 18 [38],jq 13 (.alloc [.n 6,.n 1,.r (.v (.int .i64 0))]),jp (.st 3 13 39)] [1,2,3,4,5,12,13] (js [jm 40 1,jc 41 19 [40],jm 14 41] [1,2,3,4,5,12,13,14] (js [jl 42 3 13,jm 43 14,jm 44 2,jm 45 3,jm 46 4,jc 47 55 [42,43,44,45,46],jm 15 47] [1,2,3,4,5,12,13,14,15] (.seq (js [jm 48 15,jm 49 12,jc 50 56 [48,49],jq 51 (.not 50)] [1,2,3,4,5,12,13,14,15,51] (.cond 51 (js [jm 10 kf] [10] .ret) .skip)) (.seq (.seq (.reg (some [[],[],[1],[0,1,2],[0,1,2,3]]) [jl 52 3 13,jl 53 3 5,jq 54 (.call 18 false [53]),jc 55 22 [52,54],jq 56 (.not 55)] [1,2,3,4,5,12,13,14,15,56]) (.cond 56 (js [jm 10 kf] [10] .ret) .skip)) (.seq (js [jm 57 14,jm 58 1,jq 59 (.call 19 false [58]),jc 60 21 [57,59],jq 61 (.not 60)] [1,2,3,4,5,12,13,14,15,61] (.cond 61 (js [jm 10 kf] [10] .ret) .skip)) (js [jm 16 (ki 1)] [1,2,3,4,5,12,13,14,15,16] (js [jl 62 3 13,jm 63 16,jq 64 (.callm 23 62 [63]),jm 16 64] [1,2,3,4,5,12,14,15,16] (js [jm 65 14,jm 66 16,jq 67 (.callm 24 65 [66]),jm 16 67] [1,2,3,4,5,12,15,16] (.seq (js [jm 68 16,jb 69 .lss .i 68 (ki 0),jm 70 69,jv 71 70 (.mv 15),jv 72 70 (.mv 12),jv 73 70 (.call 56 true [71,72]),jv 74 70 (.not 73),jq 75 (.pick 70 kt 74)] [1,2,3,4,5,12,15,75] (.cond 75 (js [jm 10 kf] [10] .ret) .skip)) (js [jm 17 (ki 1)] [1,2,3,4,5,12,15,17] (js [jm 76 15,jm 77 17,jq 78 (.callm 57 76 [77]),jm 17 78] [1,2,3,4,5,12,15,17] (js [jm 18 (ki 1)] [1,2,3,4,5,12,15,17,18] (js [jm 79 15,jm 80 18,jc 81 58 [79,80],jm 18 81] [1,2,3,4,5,12,15,17,18] (.seq (js [jm 82 18,jb 83 .lss .i 82 (ki 0)] [1,2,3,4,5,12,15,17,18,83] (.cond 83 (js [jm 10 kf] [10] .ret) .skip)) (.seq (js [jm 84 18,jm 85 17,jb 86 .neq .i 84 85] [1,2,3,4,5,12,15,17,86] (.cond 86 (js [jm 10 kf] [10] .ret) .skip)) (js [jl 87 3 5,jq 88 (.call 18 false [87]),jm 89 1,jq 90 (.call 19 false [89]),jm 91 2,jm 92 3,jm 93 4,jq 94 (.call 55 false [88,90,91,92,93]),jm 19 94] [12,15,17,19] (.seq (js [jm 95 19,jm 96 12,jc 97 56 [95,96],jq 98 (.not 97)] [15,17,98] (.cond 98 (js [jm 10 kf] [10] .ret) .skip)) (js [jm 18 (ki 1)] [15,17,18] (js [jm 99 15,jm 100 18,jc 101 58 [99,100],jm 18 101] [17,18] (.seq (js [jm 102 18,jb 103 .lss .i 102 (ki
 0)] [17,18,103] (.cond 103 (js [jm 10 kf] [10] .ret) .skip)) (.seq (js [jm 104 18,jm 105 17,jb 106 .neq .i 104 105] [106] (.cond 106 (js [jm 10 kf] [10] .ret) .skip)) (js [jm 10 kt] [10] .ret)))))))))))))))))))))))))))))
def rv14:List RV:=[.t 10]
open Go.Proofs Go.IntWalk
set_option linter.unusedVariables false
set_option maxHeartbeats 4000000
def gO (g:G) (t:TE) (a0:Network) (a1:List Scan) (a2:Int) (a3:Int) (a4:Int):Option Bool:=
 lP (gD g t a0 1048576) fun x1=>
 br (g.lt x1 0)
 (
  some true)
 (
  lP (jn g t a1 x1) fun x2=>
  br (g.lt x2 0)
  (
   some true)
  (
   cl (cD g t a0) fun x3=>
   cl (dO g t a1) fun x4=>
   cl (o9 g t x3 x4 a2 a3 a4) fun x5=>
   cl (cD g t a0) fun x6=>
   cl (dO g t a1) fun x7=>
   cl (mT g t x6 x7 a2 a3 a4) fun x8=>
   cl (eP g t x8 x5) fun x9=>
   br x9
   (
    cl (cD g t a0) fun x10=>
    cl (gv g t x6 x10) fun x11=>
    br x11
    (
     cl (dO g t a1) fun x12=>
     cl (ji g t x7 x12) fun x13=>
     br x13
     (
      cl (fh g t x6 1) fun x14=>
      gd ((x14.2.Legs.length=x6.Legs.length))<|
      gd ((x14.2.Off.length=x6.Off.length))<|
      cl (gE g t x7 x14.1) fun x15=>
      gd ((x15.2.length=x7.length))<|
      br (g.lt x15.1 0)
      (
       some false)
      (
       cl (eP g t x8 x5) fun x16=>
       br x16
       (
        cl (fi g t x8 1) fun x17=>
        gd ((x17.2.length=x8.length))<|
        cl (eu g t x17.2 1) fun x18=>
        br (g.lt x18 0)
        (
         some false)
        (
         br (g.eq x18 x17.1)
         (
          cl (cD g t a0) fun x19=>
          cl (dO g t a1) fun x20=>
          cl (mT g t x19 x20 a2 a3 a4) fun x21=>
          cl (eP g t x21 x5) fun x22=>
          br x22
          (
           cl (eu g t x17.2 1) fun x23=>
           br (g.lt x23 0)
           (
            some false)
           (
            br (g.eq x23 x17.1)
            (
             some true)
            (
             some false)))
          (
           some false))
         (
          some false)))
       (
        some false)))
     (
      some false))
    (
     some false))
   (
    some false)))
theorem pM {g:G} {t:TE} {a0:Network} {a1:List Scan} {a2:Int} {a3:Int} {a4:Int} {r:Bool} (hg:g=G.real) (ht:t=TE.real) (h:gO g t a0 a1 a2 a3 a4=some r):Fn Tryz.prog 14 [.g (Network.rs t a0),.c (.s 6 (t.r_Scan a1)),.c (.v (.int .i64 a2)),.c (.v (.int .i64 a3)),.c (.v (.int .i64 a4))] (.c (.r (.v (.bool r)))):=by
 obtain⟨X,hX⟩:=aE (.c (.r (.v (.bool r))):X);rw[←hX];refine au (rvs:=rv14) (j:=ir14) Tryz.func14 rfl (by kernel_rfl) (nb rfl) (by kernel_rfl) ae ?_;intro g2 F hg2 hF;obtain rfl:g2=g:=hg2.unique.trans hg.symm;clear hg2;obtain⟨_,lt,_,eq,_,_,_,_,_,_,_,_,_,_,_,_,_,_,_,_,_,_,_,_,dlen,_,_,_,rd,rda⟩:=g2;obtain⟨r_Leg,d_Leg,r_I64,d_I64,r_Scan,d_Scan,r_S,d_S⟩:=t
 obtain⟨a0_Legs,a0_Off,a0_Change⟩:=a0;have hrda_Leg:∀l,rda (d_Leg l)=r_Leg l:=zY hg ht;have hrda_I64:∀l,rda (d_I64 l)=r_I64 l:=Ah hg ht;have hrda_Scan:∀l,rda (d_Scan l)=r_Scan l:=vP hg ht;have hfr_S:∀l,dc (d_S l)=true:=zz ht;have hrda_S:∀l,rda (d_S l)=r_S l:=E0 hg ht;unfold gO at h;try dsimp only at h
 cbv;obtain⟨x1,hx1,h⟩:=ak h;try dsimp only at h
 refine ACall.mk _ _ rfl (hF _ _ _ (nq hg ht hx1)) (.inl rfl) (nb rfl) ?_;cbv
 cases hb1:(lt x1 0)
 rotate_left
 ·rw[ab hb1] at h;cbv;obtain rfl:=Option.some.inj h;exact ARet.mk trivial hX.symm
 rw[aa hb1] at h;cbv;obtain⟨x2,hx2,h⟩:=ak h;try dsimp only at h
 refine ACall.mk _ _ rfl (hF _ _ _ (qf hg ht hx2)) (.inl rfl) (nb rfl) ?_;cbv
 cases hb2:(lt x2 0)
 rotate_left
 ·rw[ab hb2] at h;cbv;obtain rfl:=Option.some.inj h;exact ARet.mk trivial hX.symm
 rw[aa hb2] at h;cbv;obtain⟨x3,hx3,h⟩:=ac h;obtain⟨x3_Legs,x3_Off,x3_Change⟩:=x3;try dsimp only at h
 refine ACallR.mk _ _ (.g [.r (.s 6 (r_Leg x3_Legs)),.r (.s 1 (r_I64 x3_Off)),.r (.v (.int .i64 x3_Change))]) rfl (hF _ _ _ (du hg ht hx3)) (.inl rfl) (nb rfl) (by cbv;(try simp only[hrda_I64,hrda_Leg])) ?_;cbv;obtain⟨x4,hx4,h⟩:=ac h;try dsimp only at h
 refine ACallR.mk _ _ (.c (.r (.s 6 (r_Scan x4)))) rfl (hF _ _ _ (eJ hg ht hx4)) (.inl rfl) (nb rfl) (by cbv;(try simp only[hrda_Scan])) ?_;cbv;obtain⟨x5,hx5,h⟩:=ac h;try dsimp only at h
 refine ACallR.mk _ _ (.c (.r (.s 1 (r_S x5)))) rfl (hF _ _ _ (AX hg ht hx5)) (.inl rfl) (nb rfl) (by cbv;(try simp only[hrda_S])) ?_;cbv;obtain⟨x6,hx6,h⟩:=ac h;obtain⟨x6_Legs,x6_Off,x6_Change⟩:=x6;try dsimp only at h
 refine ACall.mk _ _ rfl (hF _ _ _ (du hg ht hx6)) (.inl rfl) (nb rfl) ?_;cbv;obtain⟨x7,hx7,h⟩:=ac h;try dsimp only at h
 refine ACall.mk _ _ rfl (hF _ _ _ (eJ hg ht hx7)) (.inl rfl) (nb rfl) ?_;cbv;refine AStep.mk ⟨⟨(og ht (bN hg ht _)),(kL ht (ao hg ht _))⟩,(mX ht (aj hg ht _))⟩ ?_;cbv;obtain⟨x8,hx8,h⟩:=ac h;try dsimp only at h
 refine ACall.mk _ _ (by rw[show rd (d_Leg x6_Legs) 0 (dlen (d_Leg x6_Legs))=r_Leg x6_Legs from qV hg ht (bN hg ht _),show rd (d_I64 x6_Off) 0 (dlen (d_I64 x6_Off))=r_I64 x6_Off from m8 hg ht (ao hg ht _),show rd (d_Scan x7) 0 (dlen (d_Scan x7))=r_Scan x7 from oe hg ht (aj hg ht _)];try rfl) (hF _ _ _ (t6 hg ht hx8)) (.inr (by simp only[Go.Vs.X.fresh,Go.Vs.X.freshs,iV,d9,Bool.and_self,hfr_S])) (nb rfl) ?_
 cbv;refine AStep.mk (dN ht (al hg ht _)) ?_;cbv;obtain⟨x9,hx9,h⟩:=ac h;try dsimp only at h
 refine ACall.mk _ _ (by rw[show rd (d_S x8) 0 (dlen (d_S x8))=r_S x8 from f7 hg ht (al hg ht _)];try rfl) (hF _ _ _ (iv hg ht hx9)) (.inr rfl) (nb rfl) ?_
 cbv
 cases hb3:x9
 ·rw[aa hb3] at h;cbv;obtain rfl:=Option.some.inj h;exact ARet.mk trivial hX.symm
 rw[ab hb3] at h;cbv;obtain⟨x10,hx10,h⟩:=ac h;obtain⟨x10_Legs,x10_Off,x10_Change⟩:=x10;try dsimp only at h
 refine ACallR.mk _ _ (.g [.r (.s 6 (r_Leg x10_Legs)),.r (.s 1 (r_I64 x10_Off)),.r (.v (.int .i64 x10_Change))]) rfl (hF _ _ _ (du hg ht hx10)) (.inl rfl) (nb rfl) (by cbv;(try simp only[hrda_I64,hrda_Leg])) ?_;cbv;refine AStep.mk ⟨(og ht (bN hg ht _)),(kL ht (ao hg ht _))⟩ ?_;cbv;obtain⟨x11,hx11,h⟩:=ac h;try dsimp only at h
 refine ACall.mk _ _ (by rw[show rd (d_Leg x6_Legs) 0 (dlen (d_Leg x6_Legs))=r_Leg x6_Legs from qV hg ht (bN hg ht _),show rd (d_I64 x6_Off) 0 (dlen (d_I64 x6_Off))=r_I64 x6_Off from m8 hg ht (ao hg ht _)];try rfl) (hF _ _ _ (nj hg ht hx11)) (.inr rfl) (nb rfl) ?_
 cbv
 cases hb4:x11
 ·rw[aa hb4] at h;cbv;obtain rfl:=Option.some.inj h;exact ARet.mk trivial hX.symm
 rw[ab hb4] at h;cbv;obtain⟨x12,hx12,h⟩:=ac h;try dsimp only at h
 refine ACallR.mk _ _ (.c (.r (.s 6 (r_Scan x12)))) rfl (hF _ _ _ (eJ hg ht hx12)) (.inl rfl) (nb rfl) (by cbv;(try simp only[hrda_Scan])) ?_;cbv;refine AStep.mk (mX ht (aj hg ht _)) ?_;cbv;obtain⟨x13,hx13,h⟩:=ac h;try dsimp only at h
 refine ACall.mk _ _ (by rw[show rd (d_Scan x7) 0 (dlen (d_Scan x7))=r_Scan x7 from oe hg ht (aj hg ht _)];try rfl) (hF _ _ _ (ql hg ht hx13)) (.inr rfl) (nb rfl) ?_
 cbv
 cases hb5:x13
 ·rw[aa hb5] at h;cbv;obtain rfl:=Option.some.inj h;exact ARet.mk trivial hX.symm
 rw[ab hb5] at h;cbv;refine AStep.mk ⟨⟨rfl,(bN hg ht _)⟩,⟨rfl,(ao hg ht _)⟩⟩ ?_;cbv;obtain⟨x14,hx14,h⟩:=ac h;obtain⟨x14_1,⟨x14_2_Legs,x14_2_Off,x14_2_Change⟩⟩:=x14;try dsimp only at h
 refine ACallM.mk _ _ _ _ rfl rfl (hF _ _ _ (lK hg ht hx14)) rfl (nb rfl) (nb rfl) ?_;cbv;obtain⟨hc1,h⟩:=ah h;obtain⟨hc2,h⟩:=ah h;refine AStep.mk ⟨rfl,(aj hg ht _)⟩ ?_;cbv;obtain⟨x15,hx15,h⟩:=ac h;obtain⟨x15_1,x15_2⟩:=x15;try dsimp only at h
 refine ACallM.mk _ _ _ _ rfl rfl (hF _ _ _ (nk hg ht hx15)) rfl (nb rfl) (nb rfl) ?_;cbv;obtain⟨hc3,h⟩:=ah h
 cases hb6:(lt x15_1 0)
 rotate_left
 ·rw[ab hb6] at h;cbv;iterate 4 try(rw[hb6];cbv)
  obtain rfl:=Option.some.inj h;exact ARet.mk trivial hX.symm
 rw[aa hb6] at h;cbv;iterate 2 try(rw[hb6];cbv)
 refine AStep.mk (dN ht (al hg ht _)) ?_;cbv;obtain⟨x16,hx16,h⟩:=ac h;try dsimp only at h
 refine ACall.mk _ _ (by rw[show rd (d_S x8) 0 (dlen (d_S x8))=r_S x8 from f7 hg ht (al hg ht _)];try rfl) (hF _ _ _ (iv hg ht hx16)) (.inr rfl) (nb rfl) ?_
 cbv;iterate 2 try(rw[hb6];cbv)
 cases hb7:x16
 ·rw[aa hb7] at h;cbv;obtain rfl:=Option.some.inj h;exact ARet.mk trivial hX.symm
 rw[ab hb7] at h;cbv;refine AStep.mk ⟨rfl,(al hg ht _)⟩ ?_;cbv;obtain⟨x17,hx17,h⟩:=ac h;obtain⟨x17_1,x17_2⟩:=x17;try dsimp only at h
 refine ACallM.mk _ _ _ _ rfl rfl (hF _ _ _ (lM hg ht hx17)) rfl (nb rfl) (nb rfl) ?_;cbv;obtain⟨hc4,h⟩:=ah h;refine AStep.mk (dN ht (jM ht (al hg ht _) hc4)) ?_;cbv;obtain⟨x18,hx18,h⟩:=ac h;try dsimp only at h
 refine ACall.mk _ _ (by rw[show rd (d_S x17_2) 0 (dlen (d_S x8))=r_S x17_2 from f7 hg ht (jM ht (al hg ht _) hc4)];try rfl) (hF _ _ _ (iR hg ht hx18)) (.inr rfl) (nb rfl) ?_
 cbv
 cases hb8:(lt x18 0)
 rotate_left
 ·rw[ab hb8] at h;cbv;obtain rfl:=Option.some.inj h;exact ARet.mk trivial hX.symm
 rw[aa hb8] at h;cbv
 cases hb9:(eq x18 x17_1)
 ·rw[aa hb9] at h;cbv;obtain rfl:=Option.some.inj h;exact ARet.mk trivial hX.symm
 rw[ab hb9] at h;cbv;obtain⟨x19,hx19,h⟩:=ac h;obtain⟨x19_Legs,x19_Off,x19_Change⟩:=x19;try dsimp only at h
 refine ACallR.mk _ _ (.g [.r (.s 6 (r_Leg x19_Legs)),.r (.s 1 (r_I64 x19_Off)),.r (.v (.int .i64 x19_Change))]) rfl (hF _ _ _ (du hg ht hx19)) (.inl rfl) (nb rfl) (by cbv;(try simp only[hrda_I64,hrda_Leg])) ?_;cbv;obtain⟨x20,hx20,h⟩:=ac h;try dsimp only at h
 refine ACallR.mk _ _ (.c (.r (.s 6 (r_Scan x20)))) rfl (hF _ _ _ (eJ hg ht hx20)) (.inl rfl) (nb rfl) (by cbv;(try simp only[hrda_Scan])) ?_;cbv;obtain⟨x21,hx21,h⟩:=ac h;try dsimp only at h
 refine ACallR.mk _ _ (.c (.r (.s 1 (r_S x21)))) rfl (hF _ _ _ (t6 hg ht hx21)) (.inl rfl) (nb rfl) (by cbv;(try simp only[hrda_S])) ?_;cbv;obtain⟨x22,hx22,h⟩:=ac h;try dsimp only at h
 refine ACall.mk _ _ rfl (hF _ _ _ (iv hg ht hx22)) (.inl rfl) (nb rfl) ?_;cbv
 cases hb10:x22
 ·rw[aa hb10] at h;cbv;obtain rfl:=Option.some.inj h;exact ARet.mk trivial hX.symm
 rw[ab hb10] at h;cbv;refine AStep.mk (dN ht (jM ht (al hg ht _) hc4)) ?_;cbv;obtain⟨x23,hx23,h⟩:=ac h;try dsimp only at h
 refine ACall.mk _ _ (by rw[show rd (d_S x17_2) 0 (dlen (d_S x8))=r_S x17_2 from f7 hg ht (jM ht (al hg ht _) hc4)];try rfl) (hF _ _ _ (iR hg ht hx23)) (.inr rfl) (nb rfl) ?_
 cbv
 cases hb11:(lt x23 0)
 rotate_left
 ·rw[ab hb11] at h;cbv;obtain rfl:=Option.some.inj h;exact ARet.mk trivial hX.symm
 rw[aa hb11] at h;cbv
 cases hb12:(eq x23 x17_1)
 rotate_left
 ·rw[ab hb12] at h;cbv;obtain rfl:=Option.some.inj h;exact ARet.mk trivial hX.symm
 rw[aa hb12] at h;cbv;obtain rfl:=Option.some.inj h;exact ARet.mk trivial hX.symm
end Go.Vs
