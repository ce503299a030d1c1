/- Part of the proofs of this seat's laws: Lao. No condition. -/
import Derived.Test.YtilplaaijbpilaaGreatTy
import Derived.Test.YtilplaaijbpilaaGreatTIRall
import Derived.Test.YtilplaaijbpilaaGreatLaa
import Derived.Test.YtilplaaijbpilaaGreatLab
import Derived.Test.YtilplaaijbpilaaGreatLag
set_option linter.unusedVariables false
set_option linter.unusedSimpArgs false
set_option linter.unusedSectionVars false
namespace Go.Vs
set_option maxRecDepth 100000
def ir3:J:=js [jq 2 (.box 0),jm 4 kf] [1,2] (js [jm 5 (ki 1048576)] [1,2,5] (js [jl 14 3 2,jm 15 5,jc 16 15 [14,15],jm 5 16] [1,2,5] (.seq (js [jm 17 5,jb 18 .lss .i 17 (ki 0)] [1,2,5,18] (.cond 18 (js [jm 4 kt] [4] .ret) .skip)) (js [jm 19 1,jm 20 5,jc 21 16 [19,20],jm 5 21] [1,2,5] (.seq (js [jm 22 5,jb 23 .lss .i 22 (ki 0)] [1,2,23] (.cond 23 (js [jm 4 kt] [4] .ret) .skip)) (js [jl 24 3 2,jq 25 (.call 18 false [24]),jm 26 1,jq 27 (.call 19 false [26]),jq 28 (.call 17 false [25,27]),jm 6 28] [1,2,6] (js [jl 29 3 2,jc 30 18 [29],jq 7 (.alloc [.n 6,.n 1,.r (.v (.int .i64 0))]),jp (.st 3 7 30)] [1,2,6,7] (js [jm 31 1,jc 32 19 [31],jm 8 32] [1,2,6,7,8] (js [jl 33 3 7,jm 34 8,jc 35 20 [33,34],jm 9 35] [1,2,6,7,8,9] (.seq (js [jm 36 9,jm 37 6,jc 38 21 [36,37],jq 39 (.not 38)] [1,2,6,7,8,9,39] (.cond 39 (js [jm 4 kf] [4] .ret) .skip)) (.seq (.seq (.reg (some [[],[],[1],[0,1,2],[0,1,2,3]]) [jl 40 3 7,jl 41 3 2,jq 42 (.call 18 false [41]),jc 43 22 [40,42],jq 44 (.not 43)] [1,2,6,7,8,9,44]) (.cond 44 (js [jm 4 kf] [4] .ret) .skip)) (.seq (js [jm 45 8,jm 46 1,jq 47 (.call 19 false [46]),jc 48 21 [45,47],jq 49 (.not 48)] [1,2,6,7,8,9,49] (.cond 49 (js [jm 4 kf] [4] .ret) .skip)) (js [jm 10 (ki 1)] [1,2,6,7,8,9,10] (js [jl 50 3 7,jm 51 10,jq 52 (.callm 23 50 [51]),jm 10 52] [1,2,6,8,9,10] (js [jm 53 8,jm 54 10,jq 55 (.callm 24 53 [54]),jm 10 55] [1,2,6,9,10] (.seq (js [jm 56 10,jb 57 .lss .i 56 (ki 0),jm 58 57,jv 59 58 (.mv 9),jv 60 58 (.mv 6),jv 61 58 (.call 21 true [59,60]),jv 62 58 (.not 61),jq 63 (.pick 58 kt 62)] [1,2,6,9,63] (.cond 63 (js [jm 4 kf] [4] .ret) .skip)) (js [jm 11 (ki 1)] [1,2,6,9,11] (js [jm 64 9,jm 65 11,jq 66 (.callm 24 64 [65]),jm 11 66] [1,2,6,9,11] (js [jm 12 (ki 1)] [1,2,6,9,11,12] (js [jm 67 9,jm 68 12,jc 69 25 [67,68],jm 12 69] [1,2,6,9,11,12] (.seq (js [jm 70 12,jb 71 .lss .i 70 (ki 0)] [1,2,6,9,11,12,71] (.cond 71 (js [jm 4 kf] [4] .ret) .skip)) (.seq (js [jm 72 12,jm 73 11,jb 74 .neq .i 72 73] [1,2,6,9,11,74] (.cond 74 (js [jm 4 kf] [4] .ret) .skip)) (js [jl 75 3 2,jq 76 (.call 18 false [75]),jm 77 1,jq 78 (.call 19 false [77]),jq 79 (.call 20 false [76,78]),jm 13 79] [6,9,11,13] (.seq (js [jm 80 13,jm 81 6,jc 82 21 [80,81],jq 83 (.not 82)] [9,11,83] (.cond 83 (js [jm 4 kf] [4] .ret) .skip)) (js [jm 12 (ki 1)] [9,11,12] (js [jm 84 9,jm 85 12,jc 86 25 [84,85],jm 12 86] [11,12] (.seq (js [jm 87 12,jb 88 .lss .i 87 (ki 0)] [11,12,88] (.cond 88 (js [jm 4 kf] [4] .ret) .skip)) (.seq (js [jm 89 12,jm 90 11,jb 91 .neq .i 89 90] [91] (.cond 91 (js [jm 4 kf] [4] .ret) .skip)) (js [jm 4 kt] [4] .ret)))))))))))))))))))))))))))))
def rv3:List RV:=[.t 4]
open Go.Proofs Go.IntWalk
set_option linter.unusedVariables false
set_option maxHeartbeats 4000000
def ge (g:G) (t:TE) (a0:Network) (a1:List Scan):Option Bool:=
 lP (bD g t a0 1048576) fun x1=>
 br (g.lt x1 0)
 (
  some true)
 (
  lP (c7 g t a1 x1) fun x2=>
  br (g.lt x2 0)
  (
   some true)
  (
   cl (ar g t a0) fun x3=>
   cl (ax g t a1) fun x4=>
   cl (i7 g t x3 x4) fun x5=>
   cl (ar g t a0) fun x6=>
   cl (ax g t a1) fun x7=>
   cl (g7 g t x6 x7) fun x8=>
   cl (aT g t x8 x5) fun x9=>
   br x9
   (
    cl (ar g t a0) fun x10=>
    cl (be g t x6 x10) fun x11=>
    br x11
    (
     cl (ax g t a1) fun x12=>
     cl (aT g t x7 x12) fun x13=>
     br x13
     (
      cl (cS g t x6 1) fun x14=>
      gd ((x14.2.Legs.length=x6.Legs.length))<|
      gd ((x14.2.Off.length=x6.Off.length))<|
      cl (cI g t x7 x14.1) fun x15=>
      gd ((x15.2.length=x7.length))<|
      br (g.lt x15.1 0)
      (
       some false)
      (
       cl (aT g t x8 x5) fun x16=>
       br x16
       (
        cl (cI g t x8 1) fun x17=>
        gd ((x17.2.length=x8.length))<|
        cl (eh g t x17.2 1) fun x18=>
        br (g.lt x18 0)
        (
         some false)
        (
         br (g.eq x18 x17.1)
         (
          cl (ar g t a0) fun x19=>
          cl (ax g t a1) fun x20=>
          cl (g7 g t x19 x20) fun x21=>
          cl (aT g t x21 x5) fun x22=>
          br x22
          (
           cl (eh g t x17.2 1) fun x23=>
           br (g.lt x23 0)
           (
            some false)
           (
            br (g.eq x23 x17.1)
            (
             some true)
            (
             some false)))
          (
           some false))
         (
          some false)))
       (
        some false)))
     (
      some false))
    (
     some false))
   (
    some false)))
theorem n5 {g:G} {t:TE} {a0:Network} {a1:List Scan} {r:Bool} (hg:g=G.real) (ht:t=TE.real) (h:ge g t a0 a1=some r):Fn Tryz.prog 3 [.g (Network.rs t a0),.c (.s 6 (t.r_Scan a1))] (.c (.r (.v (.bool r)))):=by
 obtain⟨X,hX⟩:=aH (.c (.r (.v (.bool r))):X);rw[←hX];refine aw (rvs:=rv3) (j:=ir3) Tryz.func3 rfl (by kernel_rfl) (nb rfl) (by kernel_rfl) af ?_;intro g2 F hg2 hF;obtain rfl:g2=g:=hg2.unique.trans hg.symm;clear hg2;obtain⟨_,lt,_,eq,_,_,_,_,_,_,_,_,_,_,_,_,_,_,_,_,_,_,_,_,dlen,_,_,_,rd,rda⟩:=g2;obtain⟨r_Leg,d_Leg,r_I64,d_I64,r_Scan,d_Scan⟩:=t
 obtain⟨a0_Legs,a0_Off,a0_Change⟩:=a0;have hrda_Leg:∀l,rda (d_Leg l)=r_Leg l:=iF hg ht;have hrda_I64:∀l,rda (d_I64 l)=r_I64 l:=iL hg ht;have hfr_Scan:∀l,cd (d_Scan l)=true:=pY ht;have hrda_Scan:∀l,rda (d_Scan l)=r_Scan l:=gm hg ht;unfold ge at h;try dsimp only at h
 cbv;obtain⟨x1,hx1,h⟩:=ak h;try dsimp only at h
 refine ACall.mk _ _ rfl (hF _ _ _ (bV hg ht hx1)) (.inl rfl) (nb rfl) ?_;cbv
 cases hb1:(lt x1 0)
 rotate_left
 ·rw[ab hb1] at h;cbv;obtain rfl:=Option.some.inj h;exact ARet.mk trivial hX.symm
 rw[aa hb1] at h;cbv;obtain⟨x2,hx2,h⟩:=ak h;try dsimp only at h
 refine ACall.mk _ _ rfl (hF _ _ _ (db hg ht hx2)) (.inl rfl) (nb rfl) ?_;cbv
 cases hb2:(lt x2 0)
 rotate_left
 ·rw[ab hb2] at h;cbv;obtain rfl:=Option.some.inj h;exact ARet.mk trivial hX.symm
 rw[aa hb2] at h;cbv;obtain⟨x3,hx3,h⟩:=ac h;obtain⟨x3_Legs,x3_Off,x3_Change⟩:=x3;try dsimp only at h
 refine ACallR.mk _ _ (.g [.r (.s 6 (r_Leg x3_Legs)),.r (.s 1 (r_I64 x3_Off)),.r (.v (.int .i64 x3_Change))]) rfl (hF _ _ _ (ap hg ht hx3)) (.inl rfl) (nb rfl) (by cbv;(try simp only[hrda_I64,hrda_Leg])) ?_;cbv;obtain⟨x4,hx4,h⟩:=ac h;try dsimp only at h
 refine ACallR.mk _ _ (.c (.r (.s 6 (r_Scan x4)))) rfl (hF _ _ _ (au hg ht hx4)) (.inl rfl) (nb rfl) (by cbv;(try simp only[hrda_Scan])) ?_;cbv;obtain⟨x5,hx5,h⟩:=ac h;try dsimp only at h
 refine ACallR.mk _ _ (.c (.r (.s 6 (r_Scan x5)))) rfl (hF _ _ _ (o9 hg ht hx5)) (.inl rfl) (nb rfl) (by cbv;(try simp only[hrda_Scan])) ?_;cbv;obtain⟨x6,hx6,h⟩:=ac h;obtain⟨x6_Legs,x6_Off,x6_Change⟩:=x6;try dsimp only at h
 refine ACall.mk _ _ rfl (hF _ _ _ (ap hg ht hx6)) (.inl rfl) (nb rfl) ?_;cbv;obtain⟨x7,hx7,h⟩:=ac h;try dsimp only at h
 refine ACall.mk _ _ rfl (hF _ _ _ (au hg ht hx7)) (.inl rfl) (nb rfl) ?_;cbv;refine AStep.mk ⟨⟨(go ht (aN hg ht _)),(df ht (am hg ht _))⟩,(bt ht (ah hg ht _))⟩ ?_;cbv;obtain⟨x8,hx8,h⟩:=ac h;try dsimp only at h
 refine ACall.mk _ _ (by rw[show rd (d_Leg x6_Legs) 0 (dlen (d_Leg x6_Legs))=r_Leg x6_Legs from iG hg ht (aN hg ht _),show rd (d_I64 x6_Off) 0 (dlen (d_I64 x6_Off))=r_I64 x6_Off from eN hg ht (am hg ht _),show rd (d_Scan x7) 0 (dlen (d_Scan x7))=r_Scan x7 from bH hg ht (ah hg ht _)];try rfl) (hF _ _ _ (mt hg ht hx8)) (.inr (by simp only[Go.Vs.X.fresh,Go.Vs.X.freshs,gX,cT,Bool.and_self,hfr_Scan])) (nb rfl) ?_
 cbv;refine AStep.mk (bt ht (ah hg ht _)) ?_;cbv;obtain⟨x9,hx9,h⟩:=ac h;try dsimp only at h
 refine ACall.mk _ _ (by rw[show rd (d_Scan x8) 0 (dlen (d_Scan x8))=r_Scan x8 from bH hg ht (ah hg ht _)];try rfl) (hF _ _ _ (aP hg ht hx9)) (.inr rfl) (nb rfl) ?_
 cbv
 cases hb3:x9
 ·rw[aa hb3] at h;cbv;obtain rfl:=Option.some.inj h;exact ARet.mk trivial hX.symm
 rw[ab hb3] at h;cbv;obtain⟨x10,hx10,h⟩:=ac h;obtain⟨x10_Legs,x10_Off,x10_Change⟩:=x10;try dsimp only at h
 refine ACallR.mk _ _ (.g [.r (.s 6 (r_Leg x10_Legs)),.r (.s 1 (r_I64 x10_Off)),.r (.v (.int .i64 x10_Change))]) rfl (hF _ _ _ (ap hg ht hx10)) (.inl rfl) (nb rfl) (by cbv;(try simp only[hrda_I64,hrda_Leg])) ?_;cbv;refine AStep.mk ⟨(go ht (aN hg ht _)),(df ht (am hg ht _))⟩ ?_;cbv;obtain⟨x11,hx11,h⟩:=ac h;try dsimp only at h
 refine ACall.mk _ _ (by rw[show rd (d_Leg x6_Legs) 0 (dlen (d_Leg x6_Legs))=r_Leg x6_Legs from iG hg ht (aN hg ht _),show rd (d_I64 x6_Off) 0 (dlen (d_I64 x6_Off))=r_I64 x6_Off from eN hg ht (am hg ht _)];try rfl) (hF _ _ _ (bd hg ht hx11)) (.inr rfl) (nb rfl) ?_
 cbv
 cases hb4:x11
 ·rw[aa hb4] at h;cbv;obtain rfl:=Option.some.inj h;exact ARet.mk trivial hX.symm
 rw[ab hb4] at h;cbv;obtain⟨x12,hx12,h⟩:=ac h;try dsimp only at h
 refine ACallR.mk _ _ (.c (.r (.s 6 (r_Scan x12)))) rfl (hF _ _ _ (au hg ht hx12)) (.inl rfl) (nb rfl) (by cbv;(try simp only[hrda_Scan])) ?_;cbv;refine AStep.mk (bt ht (ah hg ht _)) ?_;cbv;obtain⟨x13,hx13,h⟩:=ac h;try dsimp only at h
 refine ACall.mk _ _ (by rw[show rd (d_Scan x7) 0 (dlen (d_Scan x7))=r_Scan x7 from bH hg ht (ah hg ht _)];try rfl) (hF _ _ _ (aP hg ht hx13)) (.inr rfl) (nb rfl) ?_
 cbv
 cases hb5:x13
 ·rw[aa hb5] at h;cbv;obtain rfl:=Option.some.inj h;exact ARet.mk trivial hX.symm
 rw[ab hb5] at h;cbv;refine AStep.mk ⟨⟨rfl,(aN hg ht _)⟩,⟨rfl,(am hg ht _)⟩⟩ ?_;cbv;obtain⟨x14,hx14,h⟩:=ac h;obtain⟨x14_1,⟨x14_2_Legs,x14_2_Off,x14_2_Change⟩⟩:=x14;try dsimp only at h
 refine ACallM.mk _ _ _ _ rfl rfl (hF _ _ _ (eU hg ht hx14)) rfl (nb rfl) (nb rfl) ?_;cbv;obtain⟨hc1,h⟩:=al h;obtain⟨hc2,h⟩:=al h;refine AStep.mk ⟨rfl,(ah hg ht _)⟩ ?_;cbv;obtain⟨x15,hx15,h⟩:=ac h;obtain⟨x15_1,x15_2⟩:=x15;try dsimp only at h
 refine ACallM.mk _ _ _ _ rfl rfl (hF _ _ _ (dB hg ht hx15)) rfl (nb rfl) (nb rfl) ?_;cbv;obtain⟨hc3,h⟩:=al h
 cases hb6:(lt x15_1 0)
 rotate_left
 ·rw[ab hb6] at h;cbv;iterate 4 try(rw[hb6];cbv)
  obtain rfl:=Option.some.inj h;exact ARet.mk trivial hX.symm
 rw[aa hb6] at h;cbv;iterate 2 try(rw[hb6];cbv)
 refine AStep.mk (bt ht (ah hg ht _)) ?_;cbv;obtain⟨x16,hx16,h⟩:=ac h;try dsimp only at h
 refine ACall.mk _ _ (by rw[show rd (d_Scan x8) 0 (dlen (d_Scan x8))=r_Scan x8 from bH hg ht (ah hg ht _)];try rfl) (hF _ _ _ (aP hg ht hx16)) (.inr rfl) (nb rfl) ?_
 cbv;iterate 2 try(rw[hb6];cbv)
 cases hb7:x16
 ·rw[aa hb7] at h;cbv;obtain rfl:=Option.some.inj h;exact ARet.mk trivial hX.symm
 rw[ab hb7] at h;cbv;refine AStep.mk ⟨rfl,(ah hg ht _)⟩ ?_;cbv;obtain⟨x17,hx17,h⟩:=ac h;obtain⟨x17_1,x17_2⟩:=x17;try dsimp only at h
 refine ACallM.mk _ _ _ _ rfl rfl (hF _ _ _ (dB hg ht hx17)) rfl (nb rfl) (nb rfl) ?_;cbv;obtain⟨hc4,h⟩:=al h;refine AStep.mk (bt ht (dj ht (ah hg ht _) hc4)) ?_;cbv;obtain⟨x18,hx18,h⟩:=ac h;try dsimp only at h
 refine ACall.mk _ _ (by rw[show rd (d_Scan x17_2) 0 (dlen (d_Scan x8))=r_Scan x17_2 from bH hg ht (dj ht (ah hg ht _) hc4)];try rfl) (hF _ _ _ (gz hg ht hx18)) (.inr rfl) (nb rfl) ?_
 cbv
 cases hb8:(lt x18 0)
 rotate_left
 ·rw[ab hb8] at h;cbv;obtain rfl:=Option.some.inj h;exact ARet.mk trivial hX.symm
 rw[aa hb8] at h;cbv
 cases hb9:(eq x18 x17_1)
 ·rw[aa hb9] at h;cbv;obtain rfl:=Option.some.inj h;exact ARet.mk trivial hX.symm
 rw[ab hb9] at h;cbv;obtain⟨x19,hx19,h⟩:=ac h;obtain⟨x19_Legs,x19_Off,x19_Change⟩:=x19;try dsimp only at h
 refine ACallR.mk _ _ (.g [.r (.s 6 (r_Leg x19_Legs)),.r (.s 1 (r_I64 x19_Off)),.r (.v (.int .i64 x19_Change))]) rfl (hF _ _ _ (ap hg ht hx19)) (.inl rfl) (nb rfl) (by cbv;(try simp only[hrda_I64,hrda_Leg])) ?_;cbv;obtain⟨x20,hx20,h⟩:=ac h;try dsimp only at h
 refine ACallR.mk _ _ (.c (.r (.s 6 (r_Scan x20)))) rfl (hF _ _ _ (au hg ht hx20)) (.inl rfl) (nb rfl) (by cbv;(try simp only[hrda_Scan])) ?_;cbv;obtain⟨x21,hx21,h⟩:=ac h;try dsimp only at h
 refine ACallR.mk _ _ (.c (.r (.s 6 (r_Scan x21)))) rfl (hF _ _ _ (mt hg ht hx21)) (.inl rfl) (nb rfl) (by cbv;(try simp only[hrda_Scan])) ?_;cbv;obtain⟨x22,hx22,h⟩:=ac h;try dsimp only at h
 refine ACall.mk _ _ rfl (hF _ _ _ (aP hg ht hx22)) (.inl rfl) (nb rfl) ?_;cbv
 cases hb10:x22
 ·rw[aa hb10] at h;cbv;obtain rfl:=Option.some.inj h;exact ARet.mk trivial hX.symm
 rw[ab hb10] at h;cbv;refine AStep.mk (bt ht (dj ht (ah hg ht _) hc4)) ?_;cbv;obtain⟨x23,hx23,h⟩:=ac h;try dsimp only at h
 refine ACall.mk _ _ (by rw[show rd (d_Scan x17_2) 0 (dlen (d_Scan x8))=r_Scan x17_2 from bH hg ht (dj ht (ah hg ht _) hc4)];try rfl) (hF _ _ _ (gz hg ht hx23)) (.inr rfl) (nb rfl) ?_
 cbv
 cases hb11:(lt x23 0)
 rotate_left
 ·rw[ab hb11] at h;cbv;obtain rfl:=Option.some.inj h;exact ARet.mk trivial hX.symm
 rw[aa hb11] at h;cbv
 cases hb12:(eq x23 x17_1)
 rotate_left
 ·rw[ab hb12] at h;cbv;obtain rfl:=Option.some.inj h;exact ARet.mk trivial hX.symm
 rw[aa hb12] at h;cbv;obtain rfl:=Option.some.inj h;exact ARet.mk trivial hX.symm
end Go.Vs
