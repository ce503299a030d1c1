/- Part of the proofs of this seat's laws: Lat. No condition. -/
import Derived.Test.YtilplaaijbpilaaGreatTy
import Derived.Test.YtilplaaijbpilaaGreatTIRall
import Derived.Test.YtilplaaijbpilaaGreatLaa
import Derived.Test.YtilplaaijbpilaaGreatLab
import Derived.Test.YtilplaaijbpilaaGreatLae
import Derived.Test.YtilplaaijbpilaaGreatLad
set_option linter.unusedVariables false
set_option linter.unusedSimpArgs false
set_option linter.unusedSectionVars false
namespace Go.Vs
set_option maxRecDepth 100000
def ir8:J:=js [jq 4 (.box 0),jm 8 kf] [1,2,3,4] (js [jm 9 (ki 1048576)] [1,2,3,4,9] (js [jl 16 3 4,jm 17 9,jc 18 15 [16,17],jm 9 18] [1,2,3,4,9] (.seq (js [jm 19 9,jb 20 .lss .i 19 (ki 0)] [1,2,3,4,9,20] (.cond 20 (js [jm 8 kt] [8] .ret) .skip)) (js [jm 21 1,jm 22 9,jc 23 16 [21,22],jm 9 23] [1,2,3,4,9] (.seq (js [jm 24 9,jb 25 .lss .i 24 (ki 0)] [1,2,3,4,25] (.cond 25 (js [jm 8 kt] [8] .ret) .skip)) (js [jl 27 3 4,jq 28 (.call 18 false [27]),jm 29 1,jq 30 (.call 19 false [29]),jm 31 2,jm 32 3,jc 33 38 [28,30,31,32],jm 26 33,jq 34 (.ext 0 26),jq 35 (.ext 1 26),jq 10 (.alloc [.r (.v (.int .i64 0)),.r (.v (.int .i64 0)),.r (.v (.int .i64 0)),.r (.v (.string .empty)),.r (.v (.int .i64 0)),.r (.v (.int .i64 0))]),jp (.st 6 10 34),jm 11 35] [1,2,3,4,10,11] (js [jl 36 3 4,jq 37 (.call 18 false [36]),jq 12 (.alloc [.n 6,.n 1,.r (.v (.int .i64 0))]),jp (.st 3 12 37)] [1,2,3,4,10,11,12] (js [jm 38 1,jq 39 (.call 19 false [38]),jm 13 39] [1,2,3,4,10,11,12,13] (js [jl 41 3 12,jm 42 13,jm 43 2,jm 44 3,jc 45 39 [41,42,43,44],jm 40 45,jq 46 (.ext 0 40),jq 47 (.ext 1 40),jq 14 (.alloc [.r (.v (.int .i64 0)),.r (.v (.int .i64 0)),.r (.v (.int .i64 0)),.r (.v (.string .empty)),.r (.v (.int .i64 0)),.r (.v (.int .i64 0))]),jp (.st 6 14 46),jm 15 47] [1,4,10,11,12,13,14,15] (.seq (js [jl 48 6 14,jl 49 6 10,jc 50 37 [48,49],jq 51 (.not 50),jm 52 51,jv 53 52 (.mv 15),jv 54 52 (.mv 11),jv 55 52 (.bin .neq .b 53 54),jq 56 (.pick 52 kt 55)] [1,4,12,13,56] (.cond 56 (js [jm 8 kf] [8] .ret) .skip)) (.seq (.seq (.reg (some [[],[],[1],[0,1,2],[0,1,2,3]]) [jl 57 3 12,jl 58 3 4,jq 59 (.call 18 false [58]),jc 60 22 [57,59],jq 61 (.not 60)] [1,13,61]) (.cond 61 (js [jm 8 kf] [8] .ret) .skip)) (.seq (js [jm 62 13,jm 63 1,jq 64 (.call 19 false [63]),jc 65 21 [62,64],jq 66 (.not 65)] [66] (.cond 66 (js [jm 8 kf] [8] .ret) .skip)) (js [jm 8 kt] [8] .ret)))))))))))))
def rv8:List RV:=[.t 8]
open Go.Proofs Go.IntWalk
set_option linter.unusedVariables false
set_option maxHeartbeats 4000000
def gJ (g:G) (t:TE) (a0:Network) (a1:List Scan) (a2:Int) (a3:Int):Option Bool:=
 lP (bD g t a0 1048576) fun x1=>
 br (g.lt x1 0)
 (
  some true)
 (
  lP (c7 g t a1 x1) fun x2=>
  br (g.lt x2 0)
  (
   some true)
  (
   cl (ar g t a0) fun x3=>
   cl (ax g t a1) fun x4=>
   cl (iV g t x3 x4 a2 a3) fun x5=>
   cl (ar g t a0) fun x6=>
   cl (ax g t a1) fun x7=>
   cl (iW g t x6 x7 a2 a3) fun x8=>
   lP (lF g t (Scan.mk x8.1.Thing x8.1.At x8.1.Kind x8.1.Place (Trip.mk x8.1.Trip.Leg x8.1.Trip.Day)) (Scan.mk x5.1.Thing x5.1.At x5.1.Kind x5.1.Place (Trip.mk x5.1.Trip.Leg x5.1.Trip.Day))) fun x9=>
   br x9
   (
    br x8.2
    (
     br x5.2
     (
      cl (ar g t a0) fun x10=>
      cl (be g t x6 x10) fun x11=>
      br x11
      (
       cl (ax g t a1) fun x12=>
       cl (aT g t x7 x12) fun x13=>
       br x13
       (
        some true)
       (
        some false))
      (
       some false))
     (
      some false))
    (
     br x5.2
     (
      some false)
     (
      cl (ar g t a0) fun x14=>
      cl (be g t x6 x14) fun x15=>
      br x15
      (
       cl (ax g t a1) fun x16=>
       cl (aT g t x7 x16) fun x17=>
       br x17
       (
        some true)
       (
        some false))
      (
       some false))))
   (
    some false)))
theorem o6 {g:G} {t:TE} {a0:Network} {a1:List Scan} {a2:Int} {a3:Int} {r:Bool} (hg:g=G.real) (ht:t=TE.real) (h:gJ g t a0 a1 a2 a3=some r):Fn Tryz.prog 8 [.g (Network.rs t a0),.c (.s 6 (t.r_Scan a1)),.c (.v (.int .i64 a2)),.c (.v (.int .i64 a3))] (.c (.r (.v (.bool r)))):=by
 obtain⟨X,hX⟩:=aH (.c (.r (.v (.bool r))):X);rw[←hX];refine aw (rvs:=rv8) (j:=ir8) Tryz.func8 rfl (by kernel_rfl) (nb rfl) (by kernel_rfl) af ?_;intro g2 F hg2 hF;obtain rfl:g2=g:=hg2.unique.trans hg.symm;clear hg2;obtain⟨_,lt,_,_,_,_,_,_,_,_,_,_,_,_,_,_,_,_,_,_,_,_,_,_,_,_,_,_,_,rda⟩:=g2;obtain⟨r_Leg,d_Leg,r_I64,d_I64,r_Scan,d_Scan⟩:=t
 obtain⟨a0_Legs,a0_Off,a0_Change⟩:=a0;have hrda_Leg:∀l,rda (d_Leg l)=r_Leg l:=iF hg ht;have hrda_I64:∀l,rda (d_I64 l)=r_I64 l:=iL hg ht;have hrda_Scan:∀l,rda (d_Scan l)=r_Scan l:=gm hg ht;unfold gJ at h;try dsimp only at h
 cbv;obtain⟨x1,hx1,h⟩:=ak h;try dsimp only at h
 refine ACall.mk _ _ rfl (hF _ _ _ (bV hg ht hx1)) (.inl rfl) (nb rfl) ?_;cbv
 cases hb1:(lt x1 0)
 rotate_left
 ·rw[ab hb1] at h;cbv;obtain rfl:=Option.some.inj h;exact ARet.mk trivial hX.symm
 rw[aa hb1] at h;cbv;obtain⟨x2,hx2,h⟩:=ak h;try dsimp only at h
 refine ACall.mk _ _ rfl (hF _ _ _ (db hg ht hx2)) (.inl rfl) (nb rfl) ?_;cbv
 cases hb2:(lt x2 0)
 rotate_left
 ·rw[ab hb2] at h;cbv;obtain rfl:=Option.some.inj h;exact ARet.mk trivial hX.symm
 rw[aa hb2] at h;cbv;obtain⟨x3,hx3,h⟩:=ac h;obtain⟨x3_Legs,x3_Off,x3_Change⟩:=x3;try dsimp only at h
 refine ACallR.mk _ _ (.g [.r (.s 6 (r_Leg x3_Legs)),.r (.s 1 (r_I64 x3_Off)),.r (.v (.int .i64 x3_Change))]) rfl (hF _ _ _ (ap hg ht hx3)) (.inl rfl) (nb rfl) (by cbv;(try simp only[hrda_I64,hrda_Leg])) ?_;cbv;obtain⟨x4,hx4,h⟩:=ac h;try dsimp only at h
 refine ACallR.mk _ _ (.c (.r (.s 6 (r_Scan x4)))) rfl (hF _ _ _ (au hg ht hx4)) (.inl rfl) (nb rfl) (by cbv;(try simp only[hrda_Scan])) ?_;cbv;obtain⟨x5,hx5,h⟩:=ac h;obtain⟨⟨x5_1_Thing,x5_1_At,x5_1_Kind,x5_1_Place,⟨x5_1_Trip_Leg,x5_1_Trip_Day⟩⟩,x5_2⟩:=x5;try dsimp only at h
 refine ACall.mk _ _ rfl (hF _ _ _ (nr hg ht hx5)) (.inl rfl) (nb rfl) ?_;cbv;obtain⟨x6,hx6,h⟩:=ac h;obtain⟨x6_Legs,x6_Off,x6_Change⟩:=x6;try dsimp only at h
 refine ACallR.mk _ _ (.g [.r (.s 6 (r_Leg x6_Legs)),.r (.s 1 (r_I64 x6_Off)),.r (.v (.int .i64 x6_Change))]) rfl (hF _ _ _ (ap hg ht hx6)) (.inl rfl) (nb rfl) (by cbv;(try simp only[hrda_I64,hrda_Leg])) ?_;cbv;obtain⟨x7,hx7,h⟩:=ac h;try dsimp only at h
 refine ACallR.mk _ _ (.c (.r (.s 6 (r_Scan x7)))) rfl (hF _ _ _ (au hg ht hx7)) (.inl rfl) (nb rfl) (by cbv;(try simp only[hrda_Scan])) ?_;cbv;obtain⟨x8,hx8,h⟩:=ac h;obtain⟨⟨x8_1_Thing,x8_1_At,x8_1_Kind,x8_1_Place,⟨x8_1_Trip_Leg,x8_1_Trip_Day⟩⟩,x8_2⟩:=x8;try dsimp only at h
 refine ACall.mk _ _ rfl (hF _ _ _ (p8 hg ht hx8)) (.inl rfl) (nb rfl) ?_;cbv;obtain⟨x9,hx9,h⟩:=ak h;try dsimp only at h
 refine ACall.mk _ _ rfl (hF _ _ _ (pT hg ht hx9)) (.inl rfl) (nb rfl) ?_;cbv
 cases hb3:x9
 ·rw[aa hb3] at h;cbv;iterate 3 try(rw[hb3];cbv)
  obtain rfl:=Option.some.inj h;exact ARet.mk trivial hX.symm
 rw[ab hb3] at h;cbv;iterate 2 try(rw[hb3];cbv)
 have hb4:x8_2=true∨x8_2=false:=by cases x8_2<;>simp
 rcases hb4 with hb4|hb4
 ·rw[ab hb4] at h;have hK_:=h;subst hb4;have h:=hK_;clear hK_;cbv;have hb5:x5_2=true∨x5_2=false:=by cases x5_2<;>simp
  rcases hb5 with hb5|hb5
  ·rw[ab hb5] at h;have hK_:=h;subst hb5;have h:=hK_;clear hK_;cbv;try(rw[hb3];cbv)
   obtain⟨x10,hx10,h⟩:=ac h;obtain⟨x10_Legs,x10_Off,x10_Change⟩:=x10;try dsimp only at h
   refine ACallR.mk _ _ (.g [.r (.s 6 (r_Leg x10_Legs)),.r (.s 1 (r_I64 x10_Off)),.r (.v (.int .i64 x10_Change))]) rfl (hF _ _ _ (ap hg ht hx10)) (.inl rfl) (nb rfl) (by cbv;(try simp only[hrda_I64,hrda_Leg])) ?_;cbv;obtain⟨x11,hx11,h⟩:=ac h;try dsimp only at h
   refine ACall.mk _ _ rfl (hF _ _ _ (bd hg ht hx11)) (.inl rfl) (nb rfl) ?_;cbv
   cases hb6:x11
   ·rw[aa hb6] at h;cbv;obtain rfl:=Option.some.inj h;exact ARet.mk trivial hX.symm
   rw[ab hb6] at h;cbv;obtain⟨x12,hx12,h⟩:=ac h;try dsimp only at h
   refine ACallR.mk _ _ (.c (.r (.s 6 (r_Scan x12)))) rfl (hF _ _ _ (au hg ht hx12)) (.inl rfl) (nb rfl) (by cbv;(try simp only[hrda_Scan])) ?_;cbv;obtain⟨x13,hx13,h⟩:=ac h;try dsimp only at h
   refine ACall.mk _ _ rfl (hF _ _ _ (aP hg ht hx13)) (.inl rfl) (nb rfl) ?_;cbv
   cases hb7:x13
   rotate_left
   ·rw[ab hb7] at h;cbv;obtain rfl:=Option.some.inj h;exact ARet.mk trivial hX.symm
   rw[aa hb7] at h;cbv;obtain rfl:=Option.some.inj h;exact ARet.mk trivial hX.symm
  rw[aa hb5] at h;have hK_:=h;subst hb5;have h:=hK_;clear hK_;cbv;try(rw[hb3];cbv)
  obtain rfl:=Option.some.inj h;exact ARet.mk trivial hX.symm
 rw[aa hb4] at h;have hK_:=h;subst hb4;have h:=hK_;clear hK_;cbv;have hb8:x5_2=true∨x5_2=false:=by cases x5_2<;>simp
 rcases hb8 with hb8|hb8
 ·rw[ab hb8] at h;have hK_:=h;subst hb8;have h:=hK_;clear hK_;cbv;try(rw[hb3];cbv)
  obtain rfl:=Option.some.inj h;exact ARet.mk trivial hX.symm
 rw[aa hb8] at h;have hK_:=h;subst hb8;have h:=hK_;clear hK_;cbv;try(rw[hb3];cbv)
 obtain⟨x14,hx14,h⟩:=ac h;obtain⟨x14_Legs,x14_Off,x14_Change⟩:=x14;try dsimp only at h
 refine ACallR.mk _ _ (.g [.r (.s 6 (r_Leg x14_Legs)),.r (.s 1 (r_I64 x14_Off)),.r (.v (.int .i64 x14_Change))]) rfl (hF _ _ _ (ap hg ht hx14)) (.inl rfl) (nb rfl) (by cbv;(try simp only[hrda_I64,hrda_Leg])) ?_;cbv;obtain⟨x15,hx15,h⟩:=ac h;try dsimp only at h
 refine ACall.mk _ _ rfl (hF _ _ _ (bd hg ht hx15)) (.inl rfl) (nb rfl) ?_;cbv
 cases hb9:x15
 ·rw[aa hb9] at h;cbv;obtain rfl:=Option.some.inj h;exact ARet.mk trivial hX.symm
 rw[ab hb9] at h;cbv;obtain⟨x16,hx16,h⟩:=ac h;try dsimp only at h
 refine ACallR.mk _ _ (.c (.r (.s 6 (r_Scan x16)))) rfl (hF _ _ _ (au hg ht hx16)) (.inl rfl) (nb rfl) (by cbv;(try simp only[hrda_Scan])) ?_;cbv;obtain⟨x17,hx17,h⟩:=ac h;try dsimp only at h
 refine ACall.mk _ _ rfl (hF _ _ _ (aP hg ht hx17)) (.inl rfl) (nb rfl) ?_;cbv
 cases hb10:x17
 rotate_left
 ·rw[ab hb10] at h;cbv;obtain rfl:=Option.some.inj h;exact ARet.mk trivial hX.symm
 rw[aa hb10] at h;cbv;obtain rfl:=Option.some.inj h;exact ARet.mk trivial hX.symm
end Go.Vs
