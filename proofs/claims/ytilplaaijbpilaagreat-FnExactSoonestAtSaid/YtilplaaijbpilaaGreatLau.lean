/- Part of the proofs of this seat's laws: Lau. No condition. -/
import Derived.Test.YtilplaaijbpilaaGreatTy
import Derived.Test.YtilplaaijbpilaaGreatTIRall
import Derived.Test.YtilplaaijbpilaaGreatLaa
import Derived.Test.YtilplaaijbpilaaGreatLab
import Derived.Test.YtilplaaijbpilaaGreatLaf
set_option linter.unusedVariables false
set_option linter.unusedSimpArgs false
set_option linter.unusedSectionVars false
namespace Go.Vs
set_option maxRecDepth 100000
def ir9:J:=js [jq 4 (.box 0),jm 8 kf] [1,2,3,4] (.seq (js [jm 14 3,jq 15 (.len true 14),jb 16 .gtr .i 15 (ki 1048576)] [1,2,3,4,16] (.cond 16 (js [jm 8 kt] [8] .ret) .skip)) (js [jm 9 (ki 1048576)] [1,2,3,4,9] (js [jl 17 3 4,jm 18 9,jc 19 15 [17,18],jm 9 19] [1,2,3,4,9] (.seq (js [jm 20 9,jb 21 .lss .i 20 (ki 0)] [1,2,3,4,9,21] (.cond 21 (js [jm 8 kt] [8] .ret) .skip)) (js [jm 22 1,jm 23 9,jc 24 16 [22,23],jm 9 24] [1,2,3,4,9] (.seq (js [jm 25 9,jb 26 .lss .i 25 (ki 0)] [1,2,3,4,26] (.cond 26 (js [jm 8 kt] [8] .ret) .skip)) (js [jl 27 3 4,jq 28 (.call 18 false [27]),jm 29 1,jq 30 (.call 19 false [29]),jm 31 2,jm 32 3,jc 33 40 [28,30,31,32],jm 10 33] [1,2,3,4,10] (js [jl 34 3 4,jq 35 (.call 18 false [34]),jq 11 (.alloc [.n 6,.n 1,.r (.v (.int .i64 0))]),jp (.st 3 11 35)] [1,2,3,4,10,11] (js [jm 36 1,jq 37 (.call 19 false [36]),jm 12 37] [1,2,3,4,10,11,12] (js [jl 38 3 11,jm 39 12,jm 40 2,jm 41 3,jc 42 41 [38,39,40,41],jm 13 42] [1,4,10,11,12,13] (.seq (js [jm 43 13,jm 44 10,jb 45 .neq .i 43 44] [1,4,11,12,45] (.cond 45 (js [jm 8 kf] [8] .ret) .skip)) (.seq (.seq (.reg (some [[],[],[1],[0,1,2],[0,1,2,3]]) [jl 46 3 11,jl 47 3 4,jq 48 (.call 18 false [47]),jc 49 22 [46,48],jq 50 (.not 49)] [1,12,50]) (.cond 50 (js [jm 8 kf] [8] .ret) .skip)) (.seq (js [jm 51 12,jm 52 1,jq 53 (.call 19 false [52]),jc 54 21 [51,53],jq 55 (.not 54)] [55] (.cond 55 (js [jm 8 kf] [8] .ret) .skip)) (js [jm 8 kt] [8] .ret))))))))))))))
def rv9:List RV:=[.t 8]
open Go.Proofs Go.IntWalk
set_option linter.unusedVariables false
set_option maxHeartbeats 4000000
def fX (g:G) (t:TE) (a0:Network) (a1:List Scan) (a2:Int) (a3:ByteArray):Option Bool:=
 br (g.lt 1048576 (g.int (g.slen a3)))
 (
  some true)
 (
  lP (bD g t a0 1048576) fun x1=>
  br (g.lt x1 0)
  (
   some true)
  (
   lP (c7 g t a1 x1) fun x2=>
   br (g.lt x2 0)
   (
    some true)
   (
    cl (ar g t a0) fun x3=>
    cl (ax g t a1) fun x4=>
    cl (kB g t x3 x4 a2 a3) fun x5=>
    cl (ar g t a0) fun x6=>
    cl (ax g t a1) fun x7=>
    cl (kz g t x6 x7 a2 a3) fun x8=>
    br (g.eq x8 x5)
    (
     cl (ar g t a0) fun x9=>
     cl (be g t x6 x9) fun x10=>
     br x10
     (
      cl (ax g t a1) fun x11=>
      cl (aT g t x7 x11) fun x12=>
      br x12
      (
       some true)
      (
       some false))
     (
      some false))
    (
     some false))))
theorem nM {g:G} {t:TE} {a0:Network} {a1:List Scan} {a2:Int} {a3:ByteArray} {r:Bool} (hg:g=G.real) (ht:t=TE.real) (h:fX g t a0 a1 a2 a3=some r):Fn Tryz.prog 9 [.g (Network.rs t a0),.c (.s 6 (t.r_Scan a1)),.c (.v (.int .i64 a2)),.c (.v (.string a3))] (.c (.r (.v (.bool r)))):=by
 obtain⟨X,hX⟩:=aH (.c (.r (.v (.bool r))):X);rw[←hX];refine aw (rvs:=rv9) (j:=ir9) Tryz.func9 rfl (by kernel_rfl) (nb rfl) (by kernel_rfl) af ?_;intro g2 F hg2 hF;obtain rfl:g2=g:=hg2.unique.trans hg.symm;clear hg2;obtain⟨_,lt,_,eq,_,_,_,_,_,_,_,_,int,_,_,_,_,_,_,_,_,_,_,_,_,_,_,_,_,rda,_,_,_,_,_,slen⟩:=g2;obtain⟨r_Leg,d_Leg,r_I64,d_I64,r_Scan,d_Scan⟩:=t
 obtain⟨a0_Legs,a0_Off,a0_Change⟩:=a0;have hrda_Leg:∀l,rda (d_Leg l)=r_Leg l:=iF hg ht;have hrda_I64:∀l,rda (d_I64 l)=r_I64 l:=iL hg ht;have hrda_Scan:∀l,rda (d_Scan l)=r_Scan l:=gm hg ht;unfold fX at h;try dsimp only at h
 cbv
 cases hb1:(lt 1048576 (int (slen a3)))
 rotate_left
 ·rw[ab hb1] at h;cbv;obtain rfl:=Option.some.inj h;exact ARet.mk trivial hX.symm
 rw[aa hb1] at h;cbv;obtain⟨x1,hx1,h⟩:=ak h;try dsimp only at h
 refine ACall.mk _ _ rfl (hF _ _ _ (bV hg ht hx1)) (.inl rfl) (nb rfl) ?_;cbv
 cases hb2:(lt x1 0)
 rotate_left
 ·rw[ab hb2] at h;cbv;obtain rfl:=Option.some.inj h;exact ARet.mk trivial hX.symm
 rw[aa hb2] at h;cbv;obtain⟨x2,hx2,h⟩:=ak h;try dsimp only at h
 refine ACall.mk _ _ rfl (hF _ _ _ (db hg ht hx2)) (.inl rfl) (nb rfl) ?_;cbv
 cases hb3:(lt x2 0)
 rotate_left
 ·rw[ab hb3] at h;cbv;obtain rfl:=Option.some.inj h;exact ARet.mk trivial hX.symm
 rw[aa hb3] at h;cbv;obtain⟨x3,hx3,h⟩:=ac h;obtain⟨x3_Legs,x3_Off,x3_Change⟩:=x3;try dsimp only at h
 refine ACallR.mk _ _ (.g [.r (.s 6 (r_Leg x3_Legs)),.r (.s 1 (r_I64 x3_Off)),.r (.v (.int .i64 x3_Change))]) rfl (hF _ _ _ (ap hg ht hx3)) (.inl rfl) (nb rfl) (by cbv;(try simp only[hrda_I64,hrda_Leg])) ?_;cbv;obtain⟨x4,hx4,h⟩:=ac h;try dsimp only at h
 refine ACallR.mk _ _ (.c (.r (.s 6 (r_Scan x4)))) rfl (hF _ _ _ (au hg ht hx4)) (.inl rfl) (nb rfl) (by cbv;(try simp only[hrda_Scan])) ?_;cbv;obtain⟨x5,hx5,h⟩:=ac h;try dsimp only at h
 refine ACall.mk _ _ rfl (hF _ _ _ (uD hg ht hx5)) (.inl rfl) (nb rfl) ?_;cbv;obtain⟨x6,hx6,h⟩:=ac h;obtain⟨x6_Legs,x6_Off,x6_Change⟩:=x6;try dsimp only at h
 refine ACallR.mk _ _ (.g [.r (.s 6 (r_Leg x6_Legs)),.r (.s 1 (r_I64 x6_Off)),.r (.v (.int .i64 x6_Change))]) rfl (hF _ _ _ (ap hg ht hx6)) (.inl rfl) (nb rfl) (by cbv;(try simp only[hrda_I64,hrda_Leg])) ?_;cbv;obtain⟨x7,hx7,h⟩:=ac h;try dsimp only at h
 refine ACallR.mk _ _ (.c (.r (.s 6 (r_Scan x7)))) rfl (hF _ _ _ (au hg ht hx7)) (.inl rfl) (nb rfl) (by cbv;(try simp only[hrda_Scan])) ?_;cbv;obtain⟨x8,hx8,h⟩:=ac h;try dsimp only at h
 refine ACall.mk _ _ rfl (hF _ _ _ (uG hg ht hx8)) (.inl rfl) (nb rfl) ?_;cbv
 cases hb4:(eq x8 x5)
 ·rw[aa hb4] at h;cbv;obtain rfl:=Option.some.inj h;exact ARet.mk trivial hX.symm
 rw[ab hb4] at h;cbv;obtain⟨x9,hx9,h⟩:=ac h;obtain⟨x9_Legs,x9_Off,x9_Change⟩:=x9;try dsimp only at h
 refine ACallR.mk _ _ (.g [.r (.s 6 (r_Leg x9_Legs)),.r (.s 1 (r_I64 x9_Off)),.r (.v (.int .i64 x9_Change))]) rfl (hF _ _ _ (ap hg ht hx9)) (.inl rfl) (nb rfl) (by cbv;(try simp only[hrda_I64,hrda_Leg])) ?_;cbv;obtain⟨x10,hx10,h⟩:=ac h;try dsimp only at h
 refine ACall.mk _ _ rfl (hF _ _ _ (bd hg ht hx10)) (.inl rfl) (nb rfl) ?_;cbv
 cases hb5:x10
 ·rw[aa hb5] at h;cbv;obtain rfl:=Option.some.inj h;exact ARet.mk trivial hX.symm
 rw[ab hb5] at h;cbv;obtain⟨x11,hx11,h⟩:=ac h;try dsimp only at h
 refine ACallR.mk _ _ (.c (.r (.s 6 (r_Scan x11)))) rfl (hF _ _ _ (au hg ht hx11)) (.inl rfl) (nb rfl) (by cbv;(try simp only[hrda_Scan])) ?_;cbv;obtain⟨x12,hx12,h⟩:=ac h;try dsimp only at h
 refine ACall.mk _ _ rfl (hF _ _ _ (aP hg ht hx12)) (.inl rfl) (nb rfl) ?_;cbv
 cases hb6:x12
 rotate_left
 ·rw[ab hb6] at h;cbv;obtain rfl:=Option.some.inj h;exact ARet.mk trivial hX.symm
 rw[aa hb6] at h;cbv;obtain rfl:=Option.some.inj h;exact ARet.mk trivial hX.symm
end Go.Vs
