/- Part of the proofs of this seat's laws: Lak. No condition. -/
import Derived.Test.YtilplaaijbpilaaGreatTy
import Derived.Test.YtilplaaijbpilaaGreatTIRall
import Derived.Test.YtilplaaijbpilaaGreatLaa
import Derived.Test.YtilplaaijbpilaaGreatLab
import Derived.Test.YtilplaaijbpilaaGreatLah
set_option linter.unusedVariables false
set_option linter.unusedSimpArgs false
set_option linter.unusedSectionVars false
namespace Go.Vs
set_option maxRecDepth 100000
def ir11:J:=js [jq 5 (.box 0),jq 9 (.box 4),jm 10 kf] [1,2,3,5,9] (js [jm 11 (ki 1048576)] [1,2,3,5,9,11] (js [jl 16 3 5,jm 17 11,jc 18 15 [16,17],jm 11 18] [1,2,3,5,9,11] (.seq (js [jm 19 11,jb 20 .lss .i 19 (ki 0)] [1,2,3,5,9,11,20] (.cond 20 (js [jm 10 kt] [10] .ret) .skip)) (js [jm 21 1,jm 22 11,jc 23 16 [21,22],jm 11 23] [1,2,3,5,9,11] (.seq (js [jm 24 11,jb 25 .lss .i 24 (ki 0)] [1,2,3,5,9,25] (.cond 25 (js [jm 10 kt] [10] .ret) .skip)) (.seq (.reg (some [[],[0],[],[0,1,2],[],[],[],[0,1,2,3,6],[0,1,2,3,4,5,6,7],[0,1,2,3,4,5,6,7,8]]) [jl 26 3 5,jq 27 (.call 18 false [26]),jm 28 1,jq 29 (.call 19 false [28]),jm 30 2,jm 31 3,jl 32 2 9,jc 33 45 [32],jc 34 44 [27,29,30,31,33],jm 12 34] [1,2,3,5,9,12]) (js [jl 35 3 5,jq 36 (.call 18 false [35]),jq 13 (.alloc [.n 6,.n 1,.r (.v (.int .i64 0))]),jp (.st 3 13 36)] [1,2,3,5,9,12,13] (js [jm 37 1,jq 38 (.call 19 false [37]),jm 14 38] [1,2,3,5,9,12,13,14] (.seq (.reg (some [[],[],[],[],[],[4],[0,1,2,3,4,5],[0,1,2,3,4,5,6]]) [jl 39 3 13,jm 40 14,jm 41 2,jm 42 3,jl 43 2 9,jc 44 45 [43],jc 45 46 [39,40,41,42,44],jm 15 45] [1,5,12,13,14,15]) (.seq (js [jm 46 15,jm 47 12,jb 48 .neq .b 46 47] [1,5,13,14,48] (.cond 48 (js [jm 10 kf] [10] .ret) .skip)) (.seq (.seq (.reg (some [[],[],[1],[0,1,2],[0,1,2,3]]) [jl 49 3 13,jl 50 3 5,jq 51 (.call 18 false [50]),jc 52 22 [49,51],jq 53 (.not 52)] [1,14,53]) (.cond 53 (js [jm 10 kf] [10] .ret) .skip)) (.seq (js [jm 54 14,jm 55 1,jq 56 (.call 19 false [55]),jc 57 21 [54,56],jq 58 (.not 57)] [58] (.cond 58 (js [jm 10 kf] [10] .ret) .skip)) (js [jm 10 kt] [10] .ret)))))))))))))
def rv11:List RV:=[.t 10]
open Go.Proofs Go.IntWalk
set_option linter.unusedVariables false
set_option maxHeartbeats 4000000
def hR (g:G) (t:TE) (a0:Network) (a1:List Scan) (a2:Int) (a3:Int) (a4:Trip):Option Bool:=
 lP (bD g t a0 1048576) fun x1=>
 br (g.lt x1 0)
 (
  some true)
 (
  lP (c7 g t a1 x1) fun x2=>
  br (g.lt x2 0)
  (
   some true)
  (
   cl (ar g t a0) fun x3=>
   cl (ax g t a1) fun x4=>
   lP (mQ g t a4) fun x5=>
   cl (ln g t x3 x4 a2 a3 x5) fun x6=>
   cl (ar g t a0) fun x7=>
   cl (ax g t a1) fun x8=>
   lP (mQ g t a4) fun x9=>
   cl (mU g t x7 x8 a2 a3 x9) fun x10=>
   br x10
   (
    br x6
    (
     cl (ar g t a0) fun x11=>
     cl (be g t x7 x11) fun x12=>
     br x12
     (
      cl (ax g t a1) fun x13=>
      cl (aT g t x8 x13) fun x14=>
      br x14
      (
       some true)
      (
       some false))
     (
      some false))
    (
     some false))
   (
    br x6
    (
     some false)
    (
     cl (ar g t a0) fun x15=>
     cl (be g t x7 x15) fun x16=>
     br x16
     (
      cl (ax g t a1) fun x17=>
      cl (aT g t x8 x17) fun x18=>
      br x18
      (
       some true)
      (
       some false))
     (
      some false)))))
theorem pu {g:G} {t:TE} {a0:Network} {a1:List Scan} {a2:Int} {a3:Int} {a4:Trip} {r:Bool} (hg:g=G.real) (ht:t=TE.real) (h:hR g t a0 a1 a2 a3 a4=some r):Fn Tryz.prog 11 [.g (Network.rs t a0),.c (.s 6 (t.r_Scan a1)),.c (.v (.int .i64 a2)),.c (.v (.int .i64 a3)),.g (Trip.rs t a4)] (.c (.r (.v (.bool r)))):=by
 obtain⟨X,hX⟩:=aH (.c (.r (.v (.bool r))):X);rw[←hX];refine aw (rvs:=rv11) (j:=ir11) Tryz.func11 rfl (by kernel_rfl) (nb rfl) (by kernel_rfl) af ?_;intro g2 F hg2 hF;obtain rfl:g2=g:=hg2.unique.trans hg.symm;clear hg2;obtain⟨_,lt,_,_,_,_,_,_,_,_,_,_,_,_,_,_,_,_,_,_,_,_,_,_,_,_,_,_,_,rda⟩:=g2;obtain⟨r_Leg,d_Leg,r_I64,d_I64,r_Scan,d_Scan⟩:=t
 obtain⟨a0_Legs,a0_Off,a0_Change⟩:=a0;obtain⟨a4_Leg,a4_Day⟩:=a4;have hrda_Leg:∀l,rda (d_Leg l)=r_Leg l:=iF hg ht;have hrda_I64:∀l,rda (d_I64 l)=r_I64 l:=iL hg ht;have hrda_Scan:∀l,rda (d_Scan l)=r_Scan l:=gm hg ht;unfold hR at h;try dsimp only at h
 cbv;obtain⟨x1,hx1,h⟩:=ak h;try dsimp only at h
 refine ACall.mk _ _ rfl (hF _ _ _ (bV hg ht hx1)) (.inl rfl) (nb rfl) ?_;cbv
 cases hb1:(lt x1 0)
 rotate_left
 ·rw[ab hb1] at h;cbv;obtain rfl:=Option.some.inj h;exact ARet.mk trivial hX.symm
 rw[aa hb1] at h;cbv;obtain⟨x2,hx2,h⟩:=ak h;try dsimp only at h
 refine ACall.mk _ _ rfl (hF _ _ _ (db hg ht hx2)) (.inl rfl) (nb rfl) ?_;cbv
 cases hb2:(lt x2 0)
 rotate_left
 ·rw[ab hb2] at h;cbv;obtain rfl:=Option.some.inj h;exact ARet.mk trivial hX.symm
 rw[aa hb2] at h;cbv;obtain⟨x3,hx3,h⟩:=ac h;obtain⟨x3_Legs,x3_Off,x3_Change⟩:=x3;try dsimp only at h
 refine ACallR.mk _ _ (.g [.r (.s 6 (r_Leg x3_Legs)),.r (.s 1 (r_I64 x3_Off)),.r (.v (.int .i64 x3_Change))]) rfl (hF _ _ _ (ap hg ht hx3)) (.inl rfl) (nb rfl) (by cbv;(try simp only[hrda_I64,hrda_Leg])) ?_;cbv;obtain⟨x4,hx4,h⟩:=ac h;try dsimp only at h
 refine ACallR.mk _ _ (.c (.r (.s 6 (r_Scan x4)))) rfl (hF _ _ _ (au hg ht hx4)) (.inl rfl) (nb rfl) (by cbv;(try simp only[hrda_Scan])) ?_;cbv;obtain⟨x5,hx5,h⟩:=ak h;obtain⟨x5_Leg,x5_Day⟩:=x5;try dsimp only at h
 refine ACall.mk _ _ rfl (hF _ _ _ (pK hg ht hx5)) (.inl rfl) (nb rfl) ?_;cbv;obtain⟨x6,hx6,h⟩:=ac h;try dsimp only at h
 refine ACall.mk _ _ rfl (hF _ _ _ (rH hg ht hx6)) (.inl rfl) (nb rfl) ?_;cbv;obtain⟨x7,hx7,h⟩:=ac h;obtain⟨x7_Legs,x7_Off,x7_Change⟩:=x7;try dsimp only at h
 refine ACallR.mk _ _ (.g [.r (.s 6 (r_Leg x7_Legs)),.r (.s 1 (r_I64 x7_Off)),.r (.v (.int .i64 x7_Change))]) rfl (hF _ _ _ (ap hg ht hx7)) (.inl rfl) (nb rfl) (by cbv;(try simp only[hrda_I64,hrda_Leg])) ?_;cbv;obtain⟨x8,hx8,h⟩:=ac h;try dsimp only at h
 refine ACallR.mk _ _ (.c (.r (.s 6 (r_Scan x8)))) rfl (hF _ _ _ (au hg ht hx8)) (.inl rfl) (nb rfl) (by cbv;(try simp only[hrda_Scan])) ?_;cbv;obtain⟨x9,hx9,h⟩:=ak h;obtain⟨x9_Leg,x9_Day⟩:=x9;try dsimp only at h
 refine ACall.mk _ _ rfl (hF _ _ _ (pK hg ht hx9)) (.inl rfl) (nb rfl) ?_;cbv;obtain⟨x10,hx10,h⟩:=ac h;try dsimp only at h
 refine ACall.mk _ _ rfl (hF _ _ _ (yX hg ht hx10)) (.inl rfl) (nb rfl) ?_;cbv
 cases hb3:x10
 rotate_left
 ·rw[ab hb3] at h;cbv
  cases hb4:x6
  ·rw[aa hb4] at h;cbv;obtain rfl:=Option.some.inj h;exact ARet.mk trivial hX.symm
  rw[ab hb4] at h;cbv;obtain⟨x11,hx11,h⟩:=ac h;obtain⟨x11_Legs,x11_Off,x11_Change⟩:=x11;try dsimp only at h
  refine ACallR.mk _ _ (.g [.r (.s 6 (r_Leg x11_Legs)),.r (.s 1 (r_I64 x11_Off)),.r (.v (.int .i64 x11_Change))]) rfl (hF _ _ _ (ap hg ht hx11)) (.inl rfl) (nb rfl) (by cbv;(try simp only[hrda_I64,hrda_Leg])) ?_;cbv;obtain⟨x12,hx12,h⟩:=ac h;try dsimp only at h
  refine ACall.mk _ _ rfl (hF _ _ _ (bd hg ht hx12)) (.inl rfl) (nb rfl) ?_;cbv
  cases hb5:x12
  ·rw[aa hb5] at h;cbv;obtain rfl:=Option.some.inj h;exact ARet.mk trivial hX.symm
  rw[ab hb5] at h;cbv;obtain⟨x13,hx13,h⟩:=ac h;try dsimp only at h
  refine ACallR.mk _ _ (.c (.r (.s 6 (r_Scan x13)))) rfl (hF _ _ _ (au hg ht hx13)) (.inl rfl) (nb rfl) (by cbv;(try simp only[hrda_Scan])) ?_;cbv;obtain⟨x14,hx14,h⟩:=ac h;try dsimp only at h
  refine ACall.mk _ _ rfl (hF _ _ _ (aP hg ht hx14)) (.inl rfl) (nb rfl) ?_;cbv
  cases hb6:x14
  rotate_left
  ·rw[ab hb6] at h;cbv;obtain rfl:=Option.some.inj h;exact ARet.mk trivial hX.symm
  rw[aa hb6] at h;cbv;obtain rfl:=Option.some.inj h;exact ARet.mk trivial hX.symm
 rw[aa hb3] at h;cbv
 cases hb7:x6
 rotate_left
 ·rw[ab hb7] at h;cbv;obtain rfl:=Option.some.inj h;exact ARet.mk trivial hX.symm
 rw[aa hb7] at h;cbv;obtain⟨x15,hx15,h⟩:=ac h;obtain⟨x15_Legs,x15_Off,x15_Change⟩:=x15;try dsimp only at h
 refine ACallR.mk _ _ (.g [.r (.s 6 (r_Leg x15_Legs)),.r (.s 1 (r_I64 x15_Off)),.r (.v (.int .i64 x15_Change))]) rfl (hF _ _ _ (ap hg ht hx15)) (.inl rfl) (nb rfl) (by cbv;(try simp only[hrda_I64,hrda_Leg])) ?_;cbv;obtain⟨x16,hx16,h⟩:=ac h;try dsimp only at h
 refine ACall.mk _ _ rfl (hF _ _ _ (bd hg ht hx16)) (.inl rfl) (nb rfl) ?_;cbv
 cases hb8:x16
 ·rw[aa hb8] at h;cbv;obtain rfl:=Option.some.inj h;exact ARet.mk trivial hX.symm
 rw[ab hb8] at h;cbv;obtain⟨x17,hx17,h⟩:=ac h;try dsimp only at h
 refine ACallR.mk _ _ (.c (.r (.s 6 (r_Scan x17)))) rfl (hF _ _ _ (au hg ht hx17)) (.inl rfl) (nb rfl) (by cbv;(try simp only[hrda_Scan])) ?_;cbv;obtain⟨x18,hx18,h⟩:=ac h;try dsimp only at h
 refine ACall.mk _ _ rfl (hF _ _ _ (aP hg ht hx18)) (.inl rfl) (nb rfl) ?_;cbv
 cases hb9:x18
 rotate_left
 ·rw[ab hb9] at h;cbv;obtain rfl:=Option.some.inj h;exact ARet.mk trivial hX.symm
 rw[aa hb9] at h;cbv;obtain rfl:=Option.some.inj h;exact ARet.mk trivial hX.symm
end Go.Vs
