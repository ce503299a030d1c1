/- Part of the proofs of this seat's laws: Lam. No condition. -/
import Derived.Test.YtilplaaijbpilaaGreatTy
import Derived.Test.YtilplaaijbpilaaGreatTIRall
import Derived.Test.YtilplaaijbpilaaGreatLaa
import Derived.Test.YtilplaaijbpilaaGreatLab
import Derived.Test.YtilplaaijbpilaaGreatLai
set_option linter.unusedVariables false
set_option linter.unusedSimpArgs false
set_option linter.unusedSectionVars false
namespace Go.Vs
set_option maxRecDepth 100000
def ir13:J:=js [jq 4 (.box 0),jm 8 kf] [1,2,3,4] (js [jm 9 (ki 1048576)] [1,2,3,4,9] (js [jl 14 3 4,jm 15 9,jc 16 15 [14,15],jm 9 16] [1,2,3,4,9] (.seq (js [jm 17 9,jb 18 .lss .i 17 (ki 0)] [1,2,3,4,9,18] (.cond 18 (js [jm 8 kt] [8] .ret) .skip)) (js [jm 19 1,jm 20 9,jc 21 16 [19,20],jm 9 21] [1,2,3,4,9] (.seq (js [jm 22 9,jb 23 .lss .i 22 (ki 0)] [1,2,3,4,23] (.cond 23 (js [jm 8 kt] [8] .ret) .skip)) (js [jl 24 3 4,jq 25 (.call 18 false [24]),jm 26 1,jq 27 (.call 19 false [26]),jm 28 2,jm 29 3,jc 30 52 [25,27,28,29],jm 10 30] [1,2,3,4,10] (js [jl 31 3 4,jq 32 (.call 18 false [31]),jq 11 (.alloc [.n 6,.n 1,.r (.v (.int .i64 0))]),jp (.st 3 11 32)] [1,2,3,4,10,11] (js [jm 33 1,jq 34 (.call 19 false [33]),jm 12 34] [1,2,3,4,10,11,12] (js [jl 35 3 11,jm 36 12,jm 37 2,jm 38 3,jc 39 53 [35,36,37,38],jm 13 39] [1,4,10,11,12,13] (.seq (js [jm 40 13,jm 41 10,jb 42 .neq .b 40 41] [1,4,11,12,42] (.cond 42 (js [jm 8 kf] [8] .ret) .skip)) (.seq (.seq (.reg (some [[],[],[1],[0,1,2],[0,1,2,3]]) [jl 43 3 11,jl 44 3 4,jq 45 (.call 18 false [44]),jc 46 22 [43,45],jq 47 (.not 46)] [1,12,47]) (.cond 47 (js [jm 8 kf] [8] .ret) .skip)) (.seq (js [jm 48 12,jm 49 1,jq 50 (.call 19 false [49]),jc 51 21 [48,50],jq 52 (.not 51)] [52] (.cond 52 (js [jm 8 kf] [8] .ret) .skip)) (js [jm 8 kt] [8] .ret)))))))))))))
def rv13:List RV:=[.t 8]
open Go.Proofs Go.IntWalk
set_option linter.unusedVariables false
set_option maxHeartbeats 4000000
def iC (g:G) (t:TE) (a0:Network) (a1:List Scan) (a2:Int) (a3:Int):Option Bool:=
 lP (bD g t a0 1048576) fun x1=>
 br (g.lt x1 0)
 (
  some true)
 (
  lP (c7 g t a1 x1) fun x2=>
  br (g.lt x2 0)
  (
   some true)
  (
   cl (ar g t a0) fun x3=>
   cl (ax g t a1) fun x4=>
   cl (mW g t x3 x4 a2 a3) fun x5=>
   cl (ar g t a0) fun x6=>
   cl (ax g t a1) fun x7=>
   cl (ot g t x6 x7 a2 a3) fun x8=>
   br x8
   (
    br x5
    (
     cl (ar g t a0) fun x9=>
     cl (be g t x6 x9) fun x10=>
     br x10
     (
      cl (ax g t a1) fun x11=>
      cl (aT g t x7 x11) fun x12=>
      br x12
      (
       some true)
      (
       some false))
     (
      some false))
    (
     some false))
   (
    br x5
    (
     some false)
    (
     cl (ar g t a0) fun x13=>
     cl (be g t x6 x13) fun x14=>
     br x14
     (
      cl (ax g t a1) fun x15=>
      cl (aT g t x7 x15) fun x16=>
      br x16
      (
       some true)
      (
       some false))
     (
      some false)))))
theorem qY {g:G} {t:TE} {a0:Network} {a1:List Scan} {a2:Int} {a3:Int} {r:Bool} (hg:g=G.real) (ht:t=TE.real) (h:iC g t a0 a1 a2 a3=some r):Fn Tryz.prog 13 [.g (Network.rs t a0),.c (.s 6 (t.r_Scan a1)),.c (.v (.int .i64 a2)),.c (.v (.int .i64 a3))] (.c (.r (.v (.bool r)))):=by
 obtain⟨X,hX⟩:=aH (.c (.r (.v (.bool r))):X);rw[←hX];refine aw (rvs:=rv13) (j:=ir13) Tryz.func13 rfl (by kernel_rfl) (nb rfl) (by kernel_rfl) af ?_;intro g2 F hg2 hF;obtain rfl:g2=g:=hg2.unique.trans hg.symm;clear hg2;obtain⟨_,lt,_,_,_,_,_,_,_,_,_,_,_,_,_,_,_,_,_,_,_,_,_,_,_,_,_,_,_,rda⟩:=g2;obtain⟨r_Leg,d_Leg,r_I64,d_I64,r_Scan,d_Scan⟩:=t
 obtain⟨a0_Legs,a0_Off,a0_Change⟩:=a0;have hrda_Leg:∀l,rda (d_Leg l)=r_Leg l:=iF hg ht;have hrda_I64:∀l,rda (d_I64 l)=r_I64 l:=iL hg ht;have hrda_Scan:∀l,rda (d_Scan l)=r_Scan l:=gm hg ht;unfold iC at h;try dsimp only at h
 cbv;obtain⟨x1,hx1,h⟩:=ak h;try dsimp only at h
 refine ACall.mk _ _ rfl (hF _ _ _ (bV hg ht hx1)) (.inl rfl) (nb rfl) ?_;cbv
 cases hb1:(lt x1 0)
 rotate_left
 ·rw[ab hb1] at h;cbv;obtain rfl:=Option.some.inj h;exact ARet.mk trivial hX.symm
 rw[aa hb1] at h;cbv;obtain⟨x2,hx2,h⟩:=ak h;try dsimp only at h
 refine ACall.mk _ _ rfl (hF _ _ _ (db hg ht hx2)) (.inl rfl) (nb rfl) ?_;cbv
 cases hb2:(lt x2 0)
 rotate_left
 ·rw[ab hb2] at h;cbv;obtain rfl:=Option.some.inj h;exact ARet.mk trivial hX.symm
 rw[aa hb2] at h;cbv;obtain⟨x3,hx3,h⟩:=ac h;obtain⟨x3_Legs,x3_Off,x3_Change⟩:=x3;try dsimp only at h
 refine ACallR.mk _ _ (.g [.r (.s 6 (r_Leg x3_Legs)),.r (.s 1 (r_I64 x3_Off)),.r (.v (.int .i64 x3_Change))]) rfl (hF _ _ _ (ap hg ht hx3)) (.inl rfl) (nb rfl) (by cbv;(try simp only[hrda_I64,hrda_Leg])) ?_;cbv;obtain⟨x4,hx4,h⟩:=ac h;try dsimp only at h
 refine ACallR.mk _ _ (.c (.r (.s 6 (r_Scan x4)))) rfl (hF _ _ _ (au hg ht hx4)) (.inl rfl) (nb rfl) (by cbv;(try simp only[hrda_Scan])) ?_;cbv;obtain⟨x5,hx5,h⟩:=ac h;try dsimp only at h
 refine ACall.mk _ _ rfl (hF _ _ _ (Ab hg ht hx5)) (.inl rfl) (nb rfl) ?_;cbv;obtain⟨x6,hx6,h⟩:=ac h;obtain⟨x6_Legs,x6_Off,x6_Change⟩:=x6;try dsimp only at h
 refine ACallR.mk _ _ (.g [.r (.s 6 (r_Leg x6_Legs)),.r (.s 1 (r_I64 x6_Off)),.r (.v (.int .i64 x6_Change))]) rfl (hF _ _ _ (ap hg ht hx6)) (.inl rfl) (nb rfl) (by cbv;(try simp only[hrda_I64,hrda_Leg])) ?_;cbv;obtain⟨x7,hx7,h⟩:=ac h;try dsimp only at h
 refine ACallR.mk _ _ (.c (.r (.s 6 (r_Scan x7)))) rfl (hF _ _ _ (au hg ht hx7)) (.inl rfl) (nb rfl) (by cbv;(try simp only[hrda_Scan])) ?_;cbv;obtain⟨x8,hx8,h⟩:=ac h;try dsimp only at h
 refine ACall.mk _ _ rfl (hF _ _ _ (An hg ht hx8)) (.inl rfl) (nb rfl) ?_;cbv
 cases hb3:x8
 rotate_left
 ·rw[ab hb3] at h;cbv
  cases hb4:x5
  ·rw[aa hb4] at h;cbv;obtain rfl:=Option.some.inj h;exact ARet.mk trivial hX.symm
  rw[ab hb4] at h;cbv;obtain⟨x9,hx9,h⟩:=ac h;obtain⟨x9_Legs,x9_Off,x9_Change⟩:=x9;try dsimp only at h
  refine ACallR.mk _ _ (.g [.r (.s 6 (r_Leg x9_Legs)),.r (.s 1 (r_I64 x9_Off)),.r (.v (.int .i64 x9_Change))]) rfl (hF _ _ _ (ap hg ht hx9)) (.inl rfl) (nb rfl) (by cbv;(try simp only[hrda_I64,hrda_Leg])) ?_;cbv;obtain⟨x10,hx10,h⟩:=ac h;try dsimp only at h
  refine ACall.mk _ _ rfl (hF _ _ _ (bd hg ht hx10)) (.inl rfl) (nb rfl) ?_;cbv
  cases hb5:x10
  ·rw[aa hb5] at h;cbv;obtain rfl:=Option.some.inj h;exact ARet.mk trivial hX.symm
  rw[ab hb5] at h;cbv;obtain⟨x11,hx11,h⟩:=ac h;try dsimp only at h
  refine ACallR.mk _ _ (.c (.r (.s 6 (r_Scan x11)))) rfl (hF _ _ _ (au hg ht hx11)) (.inl rfl) (nb rfl) (by cbv;(try simp only[hrda_Scan])) ?_;cbv;obtain⟨x12,hx12,h⟩:=ac h;try dsimp only at h
  refine ACall.mk _ _ rfl (hF _ _ _ (aP hg ht hx12)) (.inl rfl) (nb rfl) ?_;cbv
  cases hb6:x12
  rotate_left
  ·rw[ab hb6] at h;cbv;obtain rfl:=Option.some.inj h;exact ARet.mk trivial hX.symm
  rw[aa hb6] at h;cbv;obtain rfl:=Option.some.inj h;exact ARet.mk trivial hX.symm
 rw[aa hb3] at h;cbv
 cases hb7:x5
 rotate_left
 ·rw[ab hb7] at h;cbv;obtain rfl:=Option.some.inj h;exact ARet.mk trivial hX.symm
 rw[aa hb7] at h;cbv;obtain⟨x13,hx13,h⟩:=ac h;obtain⟨x13_Legs,x13_Off,x13_Change⟩:=x13;try dsimp only at h
 refine ACallR.mk _ _ (.g [.r (.s 6 (r_Leg x13_Legs)),.r (.s 1 (r_I64 x13_Off)),.r (.v (.int .i64 x13_Change))]) rfl (hF _ _ _ (ap hg ht hx13)) (.inl rfl) (nb rfl) (by cbv;(try simp only[hrda_I64,hrda_Leg])) ?_;cbv;obtain⟨x14,hx14,h⟩:=ac h;try dsimp only at h
 refine ACall.mk _ _ rfl (hF _ _ _ (bd hg ht hx14)) (.inl rfl) (nb rfl) ?_;cbv
 cases hb8:x14
 ·rw[aa hb8] at h;cbv;obtain rfl:=Option.some.inj h;exact ARet.mk trivial hX.symm
 rw[ab hb8] at h;cbv;obtain⟨x15,hx15,h⟩:=ac h;try dsimp only at h
 refine ACallR.mk _ _ (.c (.r (.s 6 (r_Scan x15)))) rfl (hF _ _ _ (au hg ht hx15)) (.inl rfl) (nb rfl) (by cbv;(try simp only[hrda_Scan])) ?_;cbv;obtain⟨x16,hx16,h⟩:=ac h;try dsimp only at h
 refine ACall.mk _ _ rfl (hF _ _ _ (aP hg ht hx16)) (.inl rfl) (nb rfl) ?_;cbv
 cases hb9:x16
 rotate_left
 ·rw[ab hb9] at h;cbv;obtain rfl:=Option.some.inj h;exact ARet.mk trivial hX.symm
 rw[aa hb9] at h;cbv;obtain rfl:=Option.some.inj h;exact ARet.mk trivial hX.symm
end Go.Vs
