/- Part of the proofs of this seat's laws: Lap. No condition. -/
import Derived.Test.YtilplaaijbpilaaGreatTy
import Derived.Test.YtilplaaijbpilaaGreatTIRall
import Derived.Test.YtilplaaijbpilaaGreatLaa
import Derived.Test.YtilplaaijbpilaaGreatLab
import Derived.Test.YtilplaaijbpilaaGreatLag
import Derived.Test.YtilplaaijbpilaaGreatLac
set_option linter.unusedVariables false
set_option linter.unusedSimpArgs false
set_option linter.unusedSectionVars false
namespace Go.Vs
set_option maxRecDepth 100000
def ir4:J:=js [jq 3 (.box 0),jm 6 kf] [1,2,3] (js [jm 7 (ki 1048576)] [1,2,3,7] (js [jl 16 3 3,jm 17 7,jc 18 15 [16,17],jm 7 18] [1,2,3,7] (.seq (js [jm 19 7,jb 20 .lss .i 19 (ki 0)] [1,2,3,7,20] (.cond 20 (js [jm 6 kt] [6] .ret) .skip)) (js [jm 21 1,jm 22 7,jc 23 16 [21,22],jm 7 23] [1,2,3,7] (.seq (js [jm 24 7,jb 25 .lss .i 24 (ki 0)] [1,2,3,25] (.cond 25 (js [jm 6 kt] [6] .ret) .skip)) (js [jl 26 3 3,jq 27 (.call 18 false [26]),jm 28 1,jq 29 (.call 19 false [28]),jm 30 2,jq 31 (.call 26 false [27,29,30]),jm 8 31] [1,2,3,8] (js [jl 32 3 3,jc 33 18 [32],jq 9 (.alloc [.n 6,.n 1,.r (.v (.int .i64 0))]),jp (.st 3 9 33)] [1,2,3,8,9] (js [jm 34 1,jc 35 19 [34],jm 10 35] [1,2,3,8,9,10] (js [jl 36 3 9,jm 37 10,jm 38 2,jc 39 27 [36,37,38],jm 11 39] [1,2,3,8,9,10,11] (.seq (js [jm 40 11,jm 41 8,jc 42 21 [40,41],jq 43 (.not 42)] [1,2,3,8,9,10,11,43] (.cond 43 (js [jm 6 kf] [6] .ret) .skip)) (.seq (.seq (.reg (some [[],[],[1],[0,1,2],[0,1,2,3]]) [jl 44 3 9,jl 45 3 3,jq 46 (.call 18 false [45]),jc 47 22 [44,46],jq 48 (.not 47)] [1,2,3,8,9,10,11,48]) (.cond 48 (js [jm 6 kf] [6] .ret) .skip)) (.seq (js [jm 49 10,jm 50 1,jq 51 (.call 19 false [50]),jc 52 21 [49,51],jq 53 (.not 52)] [1,2,3,8,9,10,11,53] (.cond 53 (js [jm 6 kf] [6] .ret) .skip)) (js [jm 12 (ki 1)] [1,2,3,8,9,10,11,12] (js [jl 54 3 9,jm 55 12,jq 56 (.callm 23 54 [55]),jm 12 56] [1,2,3,8,10,11,12] (js [jm 57 10,jm 58 12,jq 59 (.callm 24 57 [58]),jm 12 59] [1,2,3,8,11,12] (.seq (js [jm 60 12,jb 61 .lss .i 60 (ki 0),jm 62 61,jv 63 62 (.mv 11),jv 64 62 (.mv 8),jv 65 62 (.call 21 true [63,64]),jv 66 62 (.not 65),jq 67 (.pick 62 kt 66)] [1,2,3,8,11,67] (.cond 67 (js [jm 6 kf] [6] .ret) .skip)) (js [jm 13 (ki 1)] [1,2,3,8,11,13] (js [jm 68 11,jm 69 13,jq 70 (.callm 24 68 [69]),jm 13 70] [1,2,3,8,11,13] (js [jm 14 (ki 1)] [1,2,3,8,11,13,14] (js [jm 71 11,jm 72 14,jc 73 25 [71,72],jm 14 73] [1,2,3,8,11,13,14] (.seq (js [jm 74 14,jb 75 .lss .i 74 (ki 0)] [1,2,3,8,11,13,14,75] (.cond 75 (js [jm 6 kf] [6] .ret) .skip)) (.seq (js [jm 76 14,jm 77 13,jb 78 .neq .i 76 77] [1,2,3,8,11,13,78] (.cond 78 (js [jm 6 kf] [6] .ret) .skip)) (js [jl 79 3 3,jq 80 (.call 18 false [79]),jm 81 1,jq 82 (.call 19 false [81]),jm 83 2,jq 84 (.call 27 false [80,82,83]),jm 15 84] [8,11,13,15] (.seq (js [jm 85 15,jm 86 8,jc 87 21 [85,86],jq 88 (.not 87)] [11,13,88] (.cond 88 (js [jm 6 kf] [6] .ret) .skip)) (js [jm 14 (ki 1)] [11,13,14] (js [jm 89 11,jm 90 14,jc 91 25 [89,90],jm 14 91] [13,14] (.seq (js [jm 92 14,jb 93 .lss .i 92 (ki 0)] [13,14,93] (.cond 93 (js [jm 6 kf] [6] .ret) .skip)) (.seq (js [jm 94 14,jm 95 13,jb 96 .neq .i 94 95] [96] (.cond 96 (js [jm 6 kf] [6] .ret) .skip)) (js [jm 6 kt] [6] .ret)))))))))))))))))))))))))))))
def rv4:List RV:=[.t 6]
open Go.Proofs Go.IntWalk
set_option linter.unusedVariables false
set_option maxHeartbeats 4000000
def ik (g:G) (t:TE) (a0:Network) (a1:List Scan) (a2:Int):Option Bool:=
 lP (bD g t a0 1048576) fun x1=>
 br (g.lt x1 0)
 (
  some true)
 (
  lP (c7 g t a1 x1) fun x2=>
  br (g.lt x2 0)
  (
   some true)
  (
   cl (ar g t a0) fun x3=>
   cl (ax g t a1) fun x4=>
   cl (jY g t x3 x4 a2) fun x5=>
   cl (ar g t a0) fun x6=>
   cl (ax g t a1) fun x7=>
   cl (ib g t x6 x7 a2) fun x8=>
   cl (aT g t x8 x5) fun x9=>
   br x9
   (
    cl (ar g t a0) fun x10=>
    cl (be g t x6 x10) fun x11=>
    br x11
    (
     cl (ax g t a1) fun x12=>
     cl (aT g t x7 x12) fun x13=>
     br x13
     (
      cl (cS g t x6 1) fun x14=>
      gd ((x14.2.Legs.length=x6.Legs.length))<|
      gd ((x14.2.Off.length=x6.Off.length))<|
      cl (cI g t x7 x14.1) fun x15=>
      gd ((x15.2.length=x7.length))<|
      br (g.lt x15.1 0)
      (
       some false)
      (
       cl (aT g t x8 x5) fun x16=>
       br x16
       (
        cl (cI g t x8 1) fun x17=>
        gd ((x17.2.length=x8.length))<|
        cl (eh g t x17.2 1) fun x18=>
        br (g.lt x18 0)
        (
         some false)
        (
         br (g.eq x18 x17.1)
         (
          cl (ar g t a0) fun x19=>
          cl (ax g t a1) fun x20=>
          cl (ib g t x19 x20 a2) fun x21=>
          cl (aT g t x21 x5) fun x22=>
          br x22
          (
           cl (eh g t x17.2 1) fun x23=>
           br (g.lt x23 0)
           (
            some false)
           (
            br (g.eq x23 x17.1)
            (
             some true)
            (
             some false)))
          (
           some false))
         (
          some false)))
       (
        some false)))
     (
      some false))
    (
     some false))
   (
    some false)))
theorem px {g:G} {t:TE} {a0:Network} {a1:List Scan} {a2:Int} {r:Bool} (hg:g=G.real) (ht:t=TE.real) (h:ik g t a0 a1 a2=some r):Fn Tryz.prog 4 [.g (Network.rs t a0),.c (.s 6 (t.r_Scan a1)),.c (.v (.int .i64 a2))] (.c (.r (.v (.bool r)))):=by
 obtain⟨X,hX⟩:=aH (.c (.r (.v (.bool r))):X);rw[←hX];refine aw (rvs:=rv4) (j:=ir4) Tryz.func4 rfl (by kernel_rfl) (nb rfl) (by kernel_rfl) af ?_;intro g2 F hg2 hF;obtain rfl:g2=g:=hg2.unique.trans hg.symm;clear hg2;obtain⟨_,lt,_,eq,_,_,_,_,_,_,_,_,_,_,_,_,_,_,_,_,_,_,_,_,dlen,_,_,_,rd,rda⟩:=g2;obtain⟨r_Leg,d_Leg,r_I64,d_I64,r_Scan,d_Scan⟩:=t
 obtain⟨a0_Legs,a0_Off,a0_Change⟩:=a0;have hrda_Leg:∀l,rda (d_Leg l)=r_Leg l:=iF hg ht;have hrda_I64:∀l,rda (d_I64 l)=r_I64 l:=iL hg ht;have hfr_Scan:∀l,cd (d_Scan l)=true:=pY ht;have hrda_Scan:∀l,rda (d_Scan l)=r_Scan l:=gm hg ht;unfold ik at h;try dsimp only at h
 cbv;obtain⟨x1,hx1,h⟩:=ak h;try dsimp only at h
 refine ACall.mk _ _ rfl (hF _ _ _ (bV hg ht hx1)) (.inl rfl) (nb rfl) ?_;cbv
 cases hb1:(lt x1 0)
 rotate_left
 ·rw[ab hb1] at h;cbv;obtain rfl:=Option.some.inj h;exact ARet.mk trivial hX.symm
 rw[aa hb1] at h;cbv;obtain⟨x2,hx2,h⟩:=ak h;try dsimp only at h
 refine ACall.mk _ _ rfl (hF _ _ _ (db hg ht hx2)) (.inl rfl) (nb rfl) ?_;cbv
 cases hb2:(lt x2 0)
 rotate_left
 ·rw[ab hb2] at h;cbv;obtain rfl:=Option.some.inj h;exact ARet.mk trivial hX.symm
 rw[aa hb2] at h;cbv;obtain⟨x3,hx3,h⟩:=ac h;obtain⟨x3_Legs,x3_Off,x3_Change⟩:=x3;try dsimp only at h
 refine ACallR.mk _ _ (.g [.r (.s 6 (r_Leg x3_Legs)),.r (.s 1 (r_I64 x3_Off)),.r (.v (.int .i64 x3_Change))]) rfl (hF _ _ _ (ap hg ht hx3)) (.inl rfl) (nb rfl) (by cbv;(try simp only[hrda_I64,hrda_Leg])) ?_;cbv;obtain⟨x4,hx4,h⟩:=ac h;try dsimp only at h
 refine ACallR.mk _ _ (.c (.r (.s 6 (r_Scan x4)))) rfl (hF _ _ _ (au hg ht hx4)) (.inl rfl) (nb rfl) (by cbv;(try simp only[hrda_Scan])) ?_;cbv;obtain⟨x5,hx5,h⟩:=ac h;try dsimp only at h
 refine ACallR.mk _ _ (.c (.r (.s 6 (r_Scan x5)))) rfl (hF _ _ _ (ov hg ht hx5)) (.inl rfl) (nb rfl) (by cbv;(try simp only[hrda_Scan])) ?_;cbv;obtain⟨x6,hx6,h⟩:=ac h;obtain⟨x6_Legs,x6_Off,x6_Change⟩:=x6;try dsimp only at h
 refine ACall.mk _ _ rfl (hF _ _ _ (ap hg ht hx6)) (.inl rfl) (nb rfl) ?_;cbv;obtain⟨x7,hx7,h⟩:=ac h;try dsimp only at h
 refine ACall.mk _ _ rfl (hF _ _ _ (au hg ht hx7)) (.inl rfl) (nb rfl) ?_;cbv;refine AStep.mk ⟨⟨(go ht (aN hg ht _)),(df ht (am hg ht _))⟩,(bt ht (ah hg ht _))⟩ ?_;cbv;obtain⟨x8,hx8,h⟩:=ac h;try dsimp only at h
 refine ACall.mk _ _ (by rw[show rd (d_Leg x6_Legs) 0 (dlen (d_Leg x6_Legs))=r_Leg x6_Legs from iG hg ht (aN hg ht _),show rd (d_I64 x6_Off) 0 (dlen (d_I64 x6_Off))=r_I64 x6_Off from eN hg ht (am hg ht _),show rd (d_Scan x7) 0 (dlen (d_Scan x7))=r_Scan x7 from bH hg ht (ah hg ht _)];try rfl) (hF _ _ _ (ma hg ht hx8)) (.inr (by simp only[Go.Vs.X.fresh,Go.Vs.X.freshs,gX,cT,Bool.and_self,hfr_Scan])) (nb rfl) ?_
 cbv;refine AStep.mk (bt ht (ah hg ht _)) ?_;cbv;obtain⟨x9,hx9,h⟩:=ac h;try dsimp only at h
 refine ACall.mk _ _ (by rw[show rd (d_Scan x8) 0 (dlen (d_Scan x8))=r_Scan x8 from bH hg ht (ah hg ht _)];try rfl) (hF _ _ _ (aP hg ht hx9)) (.inr rfl) (nb rfl) ?_
 cbv
 cases hb3:x9
 ·rw[aa hb3] at h;cbv;obtain rfl:=Option.some.inj h;exact ARet.mk trivial hX.symm
 rw[ab hb3] at h;cbv;obtain⟨x10,hx10,h⟩:=ac h;obtain⟨x10_Legs,x10_Off,x10_Change⟩:=x10;try dsimp only at h
 refine ACallR.mk _ _ (.g [.r (.s 6 (r_Leg x10_Legs)),.r (.s 1 (r_I64 x10_Off)),.r (.v (.int .i64 x10_Change))]) rfl (hF _ _ _ (ap hg ht hx10)) (.inl rfl) (nb rfl) (by cbv;(try simp only[hrda_I64,hrda_Leg])) ?_;cbv;refine AStep.mk ⟨(go ht (aN hg ht _)),(df ht (am hg ht _))⟩ ?_;cbv;obtain⟨x11,hx11,h⟩:=ac h;try dsimp only at h
 refine ACall.mk _ _ (by rw[show rd (d_Leg x6_Legs) 0 (dlen (d_Leg x6_Legs))=r_Leg x6_Legs from iG hg ht (aN hg ht _),show rd (d_I64 x6_Off) 0 (dlen (d_I64 x6_Off))=r_I64 x6_Off from eN hg ht (am hg ht _)];try rfl) (hF _ _ _ (bd hg ht hx11)) (.inr rfl) (nb rfl) ?_
 cbv
 cases hb4:x11
 ·rw[aa hb4] at h;cbv;obtain rfl:=Option.some.inj h;exact ARet.mk trivial hX.symm
 rw[ab hb4] at h;cbv;obtain⟨x12,hx12,h⟩:=ac h;try dsimp only at h
 refine ACallR.mk _ _ (.c (.r (.s 6 (r_Scan x12)))) rfl (hF _ _ _ (au hg ht hx12)) (.inl rfl) (nb rfl) (by cbv;(try simp only[hrda_Scan])) ?_;cbv;refine AStep.mk (bt ht (ah hg ht _)) ?_;cbv;obtain⟨x13,hx13,h⟩:=ac h;try dsimp only at h
 refine ACall.mk _ _ (by rw[show rd (d_Scan x7) 0 (dlen (d_Scan x7))=r_Scan x7 from bH hg ht (ah hg ht _)];try rfl) (hF _ _ _ (aP hg ht hx13)) (.inr rfl) (nb rfl) ?_
 cbv
 cases hb5:x13
 ·rw[aa hb5] at h;cbv;obtain rfl:=Option.some.inj h;exact ARet.mk trivial hX.symm
 rw[ab hb5] at h;cbv;refine AStep.mk ⟨⟨rfl,(aN hg ht _)⟩,⟨rfl,(am hg ht _)⟩⟩ ?_;cbv;obtain⟨x14,hx14,h⟩:=ac h;obtain⟨x14_1,⟨x14_2_Legs,x14_2_Off,x14_2_Change⟩⟩:=x14;try dsimp only at h
 refine ACallM.mk _ _ _ _ rfl rfl (hF _ _ _ (eU hg ht hx14)) rfl (nb rfl) (nb rfl) ?_;cbv;obtain⟨hc1,h⟩:=al h;obtain⟨hc2,h⟩:=al h;refine AStep.mk ⟨rfl,(ah hg ht _)⟩ ?_;cbv;obtain⟨x15,hx15,h⟩:=ac h;obtain⟨x15_1,x15_2⟩:=x15;try dsimp only at h
 refine ACallM.mk _ _ _ _ rfl rfl (hF _ _ _ (dB hg ht hx15)) rfl (nb rfl) (nb rfl) ?_;cbv;obtain⟨hc3,h⟩:=al h
 cases hb6:(lt x15_1 0)
 rotate_left
 ·rw[ab hb6] at h;cbv;iterate 4 try(rw[hb6];cbv)
  obtain rfl:=Option.some.inj h;exact ARet.mk trivial hX.symm
 rw[aa hb6] at h;cbv;iterate 2 try(rw[hb6];cbv)
 refine AStep.mk (bt ht (ah hg ht _)) ?_;cbv;obtain⟨x16,hx16,h⟩:=ac h;try dsimp only at h
 refine ACall.mk _ _ (by rw[show rd (d_Scan x8) 0 (dlen (d_Scan x8))=r_Scan x8 from bH hg ht (ah hg ht _)];try rfl) (hF _ _ _ (aP hg ht hx16)) (.inr rfl) (nb rfl) ?_
 cbv;iterate 2 try(rw[hb6];cbv)
 cases hb7:x16
 ·rw[aa hb7] at h;cbv;obtain rfl:=Option.some.inj h;exact ARet.mk trivial hX.symm
 rw[ab hb7] at h;cbv;refine AStep.mk ⟨rfl,(ah hg ht _)⟩ ?_;cbv;obtain⟨x17,hx17,h⟩:=ac h;obtain⟨x17_1,x17_2⟩:=x17;try dsimp only at h
 refine ACallM.mk _ _ _ _ rfl rfl (hF _ _ _ (dB hg ht hx17)) rfl (nb rfl) (nb rfl) ?_;cbv;obtain⟨hc4,h⟩:=al h;refine AStep.mk (bt ht (dj ht (ah hg ht _) hc4)) ?_;cbv;obtain⟨x18,hx18,h⟩:=ac h;try dsimp only at h
 refine ACall.mk _ _ (by rw[show rd (d_Scan x17_2) 0 (dlen (d_Scan x8))=r_Scan x17_2 from bH hg ht (dj ht (ah hg ht _) hc4)];try rfl) (hF _ _ _ (gz hg ht hx18)) (.inr rfl) (nb rfl) ?_
 cbv
 cases hb8:(lt x18 0)
 rotate_left
 ·rw[ab hb8] at h;cbv;obtain rfl:=Option.some.inj h;exact ARet.mk trivial hX.symm
 rw[aa hb8] at h;cbv
 cases hb9:(eq x18 x17_1)
 ·rw[aa hb9] at h;cbv;obtain rfl:=Option.some.inj h;exact ARet.mk trivial hX.symm
 rw[ab hb9] at h;cbv;obtain⟨x19,hx19,h⟩:=ac h;obtain⟨x19_Legs,x19_Off,x19_Change⟩:=x19;try dsimp only at h
 refine ACallR.mk _ _ (.g [.r (.s 6 (r_Leg x19_Legs)),.r (.s 1 (r_I64 x19_Off)),.r (.v (.int .i64 x19_Change))]) rfl (hF _ _ _ (ap hg ht hx19)) (.inl rfl) (nb rfl) (by cbv;(try simp only[hrda_I64,hrda_Leg])) ?_;cbv;obtain⟨x20,hx20,h⟩:=ac h;try dsimp only at h
 refine ACallR.mk _ _ (.c (.r (.s 6 (r_Scan x20)))) rfl (hF _ _ _ (au hg ht hx20)) (.inl rfl) (nb rfl) (by cbv;(try simp only[hrda_Scan])) ?_;cbv;obtain⟨x21,hx21,h⟩:=ac h;try dsimp only at h
 refine ACallR.mk _ _ (.c (.r (.s 6 (r_Scan x21)))) rfl (hF _ _ _ (ma hg ht hx21)) (.inl rfl) (nb rfl) (by cbv;(try simp only[hrda_Scan])) ?_;cbv;obtain⟨x22,hx22,h⟩:=ac h;try dsimp only at h
 refine ACall.mk _ _ rfl (hF _ _ _ (aP hg ht hx22)) (.inl rfl) (nb rfl) ?_;cbv
 cases hb10:x22
 ·rw[aa hb10] at h;cbv;obtain rfl:=Option.some.inj h;exact ARet.mk trivial hX.symm
 rw[ab hb10] at h;cbv;refine AStep.mk (bt ht (dj ht (ah hg ht _) hc4)) ?_;cbv;obtain⟨x23,hx23,h⟩:=ac h;try dsimp only at h
 refine ACall.mk _ _ (by rw[show rd (d_Scan x17_2) 0 (dlen (d_Scan x8))=r_Scan x17_2 from bH hg ht (dj ht (ah hg ht _) hc4)];try rfl) (hF _ _ _ (gz hg ht hx23)) (.inr rfl) (nb rfl) ?_
 cbv
 cases hb11:(lt x23 0)
 rotate_left
 ·rw[ab hb11] at h;cbv;obtain rfl:=Option.some.inj h;exact ARet.mk trivial hX.symm
 rw[aa hb11] at h;cbv
 cases hb12:(eq x23 x17_1)
 rotate_left
 ·rw[ab hb12] at h;cbv;obtain rfl:=Option.some.inj h;exact ARet.mk trivial hX.symm
 rw[aa hb12] at h;cbv;obtain rfl:=Option.some.inj h;exact ARet.mk trivial hX.symm
end Go.Vs
