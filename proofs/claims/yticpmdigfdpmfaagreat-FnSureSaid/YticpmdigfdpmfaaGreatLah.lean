/- Part of the proofs of this seat's laws: Lah. No condition. -/
import Derived.Test.YticpmdigfdpmfaaGreatTy
import Derived.Test.YticpmdigfdpmfaaGreatTIRall
import Derived.Test.YticpmdigfdpmfaaGreatLac
import Derived.Test.YticpmdigfdpmfaaGreatLaa
import Derived.Test.YticpmdigfdpmfaaGreatLab
import Derived.Test.YticpmdigfdpmfaaGreatLaf
set_option linter.unusedVariables false
set_option linter.unusedSimpArgs false
set_option linter.unusedSectionVars false
namespace Go.Vs
set_option maxRecDepth 100000
def ir39:J:=js [jq 2 (.box 0),jq 3 (.box 1),jm 4 (ki 0)] [2,3] (.seq (js [jl 5 3 2,jl 6 2 3,jc 7 76 [5,6],jq 8 (.not 7)] [2,3,8] (.cond 8 (js [jq 4 (.mv (.k (V.i (-1))))] [4] .ret) .skip)) (js [jl 9 3 2,jl 10 2 3,jc 11 85 [9,10],jm 4 11] [4] .ret))
def rv39:List RV:=[.t 4]
open Go.Proofs Go.IntWalk
set_option linter.unusedVariables false
set_option maxHeartbeats 4000000
def iN (g:G) (t:TE) (a0:Network) (a1:Trip):Option Int:=
 cl (ge g t a0 a1) fun x1=>
 br x1
 (
  cl (bK g t a0 a1) fun x2=>
  some x2)
 (
  some (-1))
theorem uF {g:G} {t:TE} {a0:Network} {a1:Trip} {r:Int} (hg:g=G.real) (ht:t=TE.real) (h:iN g t a0 a1=some r):Fn Tryz.prog 39 [.g (Network.rs t a0),.g (Trip.rs t a1)] (.c (.r (.v (.int .i64 r)))):=by
 obtain⟨X,hX⟩:=aC (.c (.r (.v (.int .i64 r))):X);rw[←hX];refine ay (rvs:=rv39) (j:=ir39) Tryz.func39 rfl (by kernel_rfl) (nb rfl) (by kernel_rfl) ac ?_;intro g2 F hg2 hF;obtain rfl:g2=g:=hg2.unique.trans hg.symm;clear hg2;obtain⟨_⟩:=g2;obtain⟨_⟩:=t
 obtain⟨a0_Legs,a0_Off,a0_Change⟩:=a0;obtain⟨a1_Leg,a1_Day⟩:=a1;unfold iN at h;try dsimp only at h
 cbv;obtain⟨x1,hx1,h⟩:=af h;try dsimp only at h
 refine ACall.mk _ _ rfl (hF _ _ _ (kB hg ht hx1)) (.inl rfl) (nb rfl) ?_;cbv
 cases hb1:x1
 ·rw[aa hb1] at h;cbv;obtain rfl:=Option.some.inj h;exact ARet.mk trivial hX.symm
 rw[ab hb1] at h;cbv;obtain⟨x2,hx2,h⟩:=af h;try dsimp only at h
 refine ACall.mk _ _ rfl (hF _ _ _ (bX hg ht hx2)) (.inl rfl) (nb rfl) ?_;cbv;obtain rfl:=Option.some.inj h;exact ARet.mk trivial hX.symm
def ir6:J:=js [jm 2 kf] [0] (.seq (js [jm 15 0,jc 16 11 [15]] [0,16] (.cond 16 (js [jm 2 kt] [2] .ret) .skip)) (js [jm 18 0,jq 19 (.call 12 false [18]),jm 17 19,jq 20 (.ext 0 17),jq 21 (.ext 1 17),jq 22 (.ext 2 17),jq 23 (.ext 3 17),jq 3 (.alloc [.n 6,.n 1,.r (.v (.int .i64 0))]),jp (.st 3 3 20),jm 4 21,jm 5 22,jm 6 23] [0,3,4,5,6] (js [jl 25 3 3,jm 26 4,jm 27 5,jm 28 6,jq 29 (.call 13 false [25,26,27,28]),jm 24 29,jq 30 (.ext 0 24),jq 31 (.ext 1 24),jm 7 30,jm 8 31] [0,3,4,5,6,7,8] (.seq (js [jl 33 3 3,jm 34 4,jm 35 5,jm 36 6,jq 37 (.call 14 false [33,34,35,36]),jm 32 37,jq 38 (.ext 0 32),jq 39 (.ext 1 32),jm 9 38,jm 10 39] [0,3,4,6,7,8,10] (js [jm 40 8,jm 41 10,jb 42 .neq .b 40 41] [0,3,4,6,7,8,42] (.cond 42 (js [jm 2 kf] [2] .ret) .skip))) (.seq (js [jm 43 8,jq 44 (.not 43),jm 45 44,jv 46 45 (.mv 6),jv 47 45 (.bin .lss .i 46 (ki 0)),jq 48 (.pick 45 kt 47),jm 49 48,jv 50 49 (.mv 7),jv 51 49 (.len false 50),jv 52 49 (.bin .eql .i 51 (ki 0)),jq 53 (.pick 49 kt 52)] [0,3,4,6,7,53] (.cond 53 (js [jm 2 kt] [2] .ret) .skip)) (js [jl 54 3 3,jm 55 7,jm 56 4,jm 57 6,jq 58 (.call 16 false [54,55,(ki 3),56,57]),jm 11 58] [0,3,7,11] (js [jm 59 7,jm 60 0,jc 61 17 [60,(ki 1)],jm 62 7,jq 63 (.len false 62),jb 64 .rem .i 61 63,ja 65 2 59 64,jl 66 2 65,jq 12 (.alloc [.r (.v (.int .i64 0)),.r (.v (.int .i64 0))]),jp (.st 2 12 66)] [0,3,11,12] (.seq (.reg (some [[],[],[0,1],[],[0,1,2,3],[],[5],[],[7],[5,6,7,8],[5,6,7,8,9],[5,6,7,8,9,10],[0,1,2,3,4,5,6,7,8,9,10,11],[0,1,2,3,4,5,6,7,8,9,10,11,12],[0,1,2,3,4,5,6,7,8,9,10,11,12,13]]) [jl 67 3 3,jl 68 2 12,jc 69 39 [67,68],jm 70 0,jc 71 17 [70,(ki 2)],jf 72 0 3,jk 73 72,jf 74 0 12,jk 75 74,ja 76 6 73 75,jf 77 3 76,jk 78 77,jb 79 .rem .i 71 78,jb 80 .add .i 69 79,jm 13 80] [3,11,12,13]) (js [jl 81 3 3,jm 82 11,jm 83 13,jq 84 (.call 40 false [81,82,(ki 3),83]),jq 14 (.alloc [.n 1,.n 2]),jp (.st 2 14 84)] [3,11,12,13,14] (.seq (.reg (some [[],[],[],[0,1,2],[0,1,2,3],[0,1,2,3,4],[0,1,2,3,4,5],[0,1,2,3,4,5,6],[0,1,2,3,4,5,6,7],[0,1,2,3,4,5,6,7,8],[0,1,2,3,4,5,6,7,8,9],[0,1,2,3,4,5,6,7,8,9,10],[0,1,2,3,4,5,6,7,8,9,10,11],[0,1,2,3,4,5,6,7,8,9,10,11,12],[0,1,2,3,4,5,6,7,8,9,10,11,12,13],[0,1,2,3,4,5,6,7,8,9,10],[0,1,2,3,4,5,6,7,8,9,10,11,12,13,14,15],[0,1,2,3,4,5,6,7,8,9,10,11,12,13,14,15,16],[0,1,2,3,4,5,6,7,8,9,10,11,12,13,14,15,16,17],[0,1,2,3,4,5,6,7,8,9,10,11,12,13,14,15,16,17,18],[0,1,2,3,4,5,6,7,8,9,10,11,12,13,14,15,16,17,18],[0,1,2,3,4,5,6,7,8,9,10,11,12,13,14,15,16,17,18],[0,1,2,3,4,5,6,7,8,9,10,11,12,13,14,15,16,17,18],[0,1,2,3,4,5,6,7,8,9,10,11,12,13,14,15,16,
 17,18,19,20,21,22],[0,1,2,3,4,5,6,7,8,9,10,11,12,13,14,15,16,17,18,19,20,21,22,23],[0,1,2,3,4,5,6,7,8,9,10,11,12,13,14,15,16,17,18,19,20,21,22,23,24]]) [jl 85 3 3,jm 86 11,jm 87 13,jc 88 41 [85,86,(ki 3),87],jm 89 88,ju 90 89 (.fa 1 14),ju 91 89 (.ld false 1 90),ju 92 89 (.len false 91),ju 93 89 (.bin .eql .i 92 (ki 1)),jq 94 (.pick 89 93 kf),jm 95 94,ju 96 95 (.fa 1 14),ju 97 95 (.ld false 1 96),ju 98 95 (.ia 2 97 (ki 0)),ju 99 95 (.ld true 2 98),ju 100 95 (.ld true 2 12),ju 101 95 (.eqs false [.i,.i] 99 100),jq 102 (.pick 95 101 kf),jm 103 102,ju 104 103 (.ld true 3 3),ju 105 103 (.mv 11),ju 106 103 (.mv 13),ju 107 103 (.ld true 2 12),ju 108 103 (.call 42 true [104,105,(ki 3),106,107]),jq 109 (.pick 103 108 kf),jm 2 109] [2]) .ret))))))))))
def rv6:List RV:=[.t 2]
def lk (g:G) (t:TE) (a0:List Int):Option Bool:=
 lP (pA g t a0) fun x1=>
 br x1
 (
  some true)
 (
  cl (dJ g t a0) fun x2=>
  cl (gB g t (Network.mk x2.1.Legs x2.1.Off x2.1.Change) x2.2.1 x2.2.2.1 x2.2.2.2) fun x3=>
  cl (gI g t (Network.mk x2.1.Legs x2.1.Off x2.1.Change) x2.2.1 x2.2.2.1 x2.2.2.2) fun x4=>
  br x3.2
  (
   br x4.2
   (
    br (g.lt x2.2.2.2 0)
    (
     some true)
    (
     br (g.eq (g.llen (t.r_Trip x3.1)) 0)
     (
      some true)
     (
      cl (kO g t (Network.mk x2.1.Legs x2.1.Off x2.1.Change) x3.1 3 x2.2.1 x2.2.2.2) fun x5=>
      cl (sR g t a0 1) fun x6=>
      gd (((g.llen (t.r_Trip x3.1))≠0))<|
      gd (((0:Int)≤(g.rem x6 (g.llen (t.r_Trip x3.1)))))<|
      gt x3.1 (g.nat (g.rem x6 (g.llen (t.r_Trip x3.1)))) fun x7=>
      cl (iN g t (Network.mk x2.1.Legs x2.1.Off x2.1.Change) x7) fun x8=>
      cl (sR g t a0 2) fun x9=>
      gd (((0:Int)≤x7.Leg))<|
      gt x2.1.Legs (g.nat x7.Leg) fun x10=>
      gd ((x10.Takes≠0))<|
      cl (fC g t (Network.mk x2.1.Legs x2.1.Off x2.1.Change) x5 3 (g.wrap .i64 (g.add x8 (g.rem x9 x10.Takes)))) fun x11=>
      cl (lg g t (Network.mk x2.1.Legs x2.1.Off x2.1.Change) x5 3 (g.wrap .i64 (g.add x8 (g.rem x9 x10.Takes)))) fun x12=>
      br x12
      (
       br (g.eq (g.llen (t.r_Trip x11.Rides)) 1)
       (
        gt x11.Rides (g.nat 0) fun x13=>
        br (g.all [(g.eq x13.Leg x7.Leg),(g.eq x13.Day x7.Day)])
        (
         cl (jP g t (Network.mk x2.1.Legs x2.1.Off x2.1.Change) x5 3 (g.wrap .i64 (g.add x8 (g.rem x9 x10.Takes))) x7) fun x14=>
         some x14)
        (
         some false))
       (
        some false))
      (
       some false))))
   (
    some false))
  (
   br x4.2
   (
    some false)
   (
    some true)))
theorem xX {g:G} {t:TE} {a0:List Int} {r:Bool} (hg:g=G.real) (ht:t=TE.real) (h:lk g t a0=some r):Fn Tryz.prog 6 [.c (.s 1 (t.r_U8 a0))] (.c (.r (.v (.bool r)))):=by
 obtain⟨X,hX⟩:=aC (.c (.r (.v (.bool r))):X);rw[←hX];refine ay (rvs:=rv6) (j:=ir6) Tryz.func6 rfl (by kernel_rfl) (nb rfl) (by kernel_rfl) ac ?_;intro g2 F hg2 hF;obtain rfl:g2=g:=hg2.unique.trans hg.symm;clear hg2;obtain⟨_,lt,_,eq,_,_,_,_,_,_,_,_,_,_,_,_,_,_,_,_,_,llen,_,_,_,_,_,_,_,rda,_,_,_,all⟩:=g2;obtain⟨_,_,r_Scan,d_Scan,r_Leg,d_Leg,r_I64,d_I64,r_Trip,d_Trip,_,_,r_S,d_S⟩:=t
 have hrda_Scan:∀l,rda (d_Scan l)=r_Scan l:=sw hg ht;have hrda_Leg:∀l,rda (d_Leg l)=r_Leg l:=qe hg ht;have hrda_I64:∀l,rda (d_I64 l)=r_I64 l:=np hg ht;have hrda_Trip:∀l,rda (d_Trip l)=r_Trip l:=qW hg ht;have hrda_S:∀l,rda (d_S l)=r_S l:=Dx hg ht;unfold lk at h;try dsimp only at h
 cbv;obtain⟨x1,hx1,h⟩:=ah h;try dsimp only at h
 refine ACall.mk _ _ rfl (hF _ _ _ (uR hg ht hx1)) (.inl rfl) (nb rfl) ?_;cbv
 cases hb1:x1
 rotate_left
 ·rw[ab hb1] at h;cbv;obtain rfl:=Option.some.inj h;exact ARet.mk trivial hX.symm
 rw[aa hb1] at h;cbv;obtain⟨x2,hx2,h⟩:=af h;obtain⟨⟨x2_1_Legs,x2_1_Off,x2_1_Change⟩,x2_2_1,x2_2_2_1,x2_2_2_2⟩:=x2;try dsimp only at h
 refine ACallR.mk _ _ (.u [.g [.r (.s 6 (r_Leg x2_1_Legs)),.r (.s 1 (r_I64 x2_1_Off)),.r (.v (.int .i64 x2_1_Change))],.c (.r (.v (.string x2_2_1))),.c (.r (.v (.string x2_2_2_1))),.c (.r (.v (.int .i64 x2_2_2_2)))]) rfl (hF _ _ _ (ik hg ht hx2)) (.inl rfl) (nb rfl) (by cbv;(try simp only[hrda_I64,hrda_Leg])) ?_;cbv;obtain⟨x3,hx3,h⟩:=af h;obtain⟨x3_1,x3_2⟩:=x3;try dsimp only at h
 refine ACallR.mk _ _ (.u [.c (.r (.s 2 (r_Trip x3_1))),.c (.r (.v (.bool x3_2)))]) rfl (hF _ _ _ (ll hg ht hx3)) (.inl rfl) (nb rfl) (by cbv;(try simp only[hrda_Trip])) ?_;cbv;obtain⟨x4,hx4,h⟩:=af h;obtain⟨x4_1,x4_2⟩:=x4;try dsimp only at h
 refine ACallR.mk _ _ (.u [.c (.r (.s 2 (r_Trip x4_1))),.c (.r (.v (.bool x4_2)))]) rfl (hF _ _ _ (lh hg ht hx4)) (.inl rfl) (nb rfl) (by cbv;(try simp only[hrda_Trip])) ?_;cbv;have hb2:x3_2=true∨x3_2=false:=by cases x3_2<;>simp
 rcases hb2 with hb2|hb2
 ·rw[ab hb2] at h;have hK_:=h;subst hb2;have h:=hK_;clear hK_;cbv;have hb3:x4_2=true∨x4_2=false:=by cases x4_2<;>simp
  rcases hb3 with hb3|hb3
  ·rw[ab hb3] at h;have hK_:=h;subst hb3;have h:=hK_;clear hK_;cbv;iterate 3 try(rw[hb2];cbv)
   cases hb4:(lt x2_2_2_2 0)
   rotate_left
   ·rw[ab hb4] at h;cbv;iterate 3 try(rw[hb4];cbv)
    obtain rfl:=Option.some.inj h;exact ARet.mk trivial hX.symm
   rw[aa hb4] at h;cbv;iterate 3 try(rw[hb4];cbv)
   cases hb5:(eq (llen (r_Trip x3_1)) 0)
   rotate_left
   ·rw[ab hb5] at h;cbv;obtain rfl:=Option.some.inj h;exact ARet.mk trivial hX.symm
   rw[aa hb5] at h;cbv;obtain⟨x5,hx5,h⟩:=af h;try dsimp only at h
   refine ACallR.mk _ _ (.c (.r (.s 6 (r_Scan x5)))) rfl (hF _ _ _ (o8 hg ht hx5)) (.inl rfl) (nb rfl) (by cbv;(try simp only[hrda_Scan])) ?_;cbv;obtain⟨x6,hx6,h⟩:=af h;try dsimp only at h
   refine ACall.mk _ _ rfl (hF _ _ _ (rj hg ht hx6)) (.inl rfl) (nb rfl) ?_;cbv;obtain⟨hc1,h⟩:=aj h;refine AStep.mk hc1 ?_;cbv;obtain⟨hc2,h⟩:=aj h;refine AStep.mk hc2 ?_;cbv;obtain⟨x7,hx7,h⟩:=aD h;obtain⟨x7_Leg,x7_Day⟩:=x7;try dsimp only at h
   refine AGet.mk _ (mG hg ht hx7) ?_;cbv;obtain⟨x8,hx8,h⟩:=af h;try dsimp only at h
   refine ACall.mk _ _ rfl (hF _ _ _ (uF hg ht hx8)) (.inl rfl) (nb rfl) ?_;cbv;obtain⟨x9,hx9,h⟩:=af h;try dsimp only at h
   refine ACall.mk _ _ rfl (hF _ _ _ (rj hg ht hx9)) (.inl rfl) (nb rfl) ?_;cbv;obtain⟨hc3,h⟩:=aj h;refine AStep.mk hc3 ?_;cbv;obtain⟨x10,hx10,h⟩:=aD h;obtain⟨x10_From,x10_To,x10_Start,x10_Takes,x10_Days,x10_Room⟩:=x10;try dsimp only at h
   refine AGet.mk _ (aY hg ht hx10) ?_;cbv;obtain⟨hc4,h⟩:=aj h;refine AStep.mk hc4 ?_;cbv;obtain⟨x11,hx11,h⟩:=af h;obtain⟨x11_Places,x11_Rides⟩:=x11;try dsimp only at h
   refine ACallR.mk _ _ (.g [.r (.s 1 (r_S x11_Places)),.r (.s 2 (r_Trip x11_Rides))]) rfl (hF _ _ _ (kQ hg ht hx11)) (.inl rfl) (nb rfl) (by cbv;(try simp only[hrda_S,hrda_Trip])) ?_;cbv;obtain⟨x12,hx12,h⟩:=af h;try dsimp only at h
   refine ACall.mk _ _ rfl (hF _ _ _ (xP hg ht hx12)) (.inl rfl) (nb rfl) ?_;cbv
   cases hb6:x12
   ·rw[aa hb6] at h;cbv;iterate 4 try(rw[hb6];cbv)
    obtain rfl:=Option.some.inj h;exact ARet.mk trivial hX.symm
   rw[ab hb6] at h;cbv;iterate 4 try(rw[hb6];cbv)
   cases hb7:(eq (llen (r_Trip x11_Rides)) 1)
   ·rw[aa hb7] at h;cbv;iterate 6 try(rw[hb7];cbv)
    obtain rfl:=Option.some.inj h;exact ARet.mk trivial hX.symm
   rw[ab hb7] at h;cbv;iterate 2 try(rw[hb7];cbv)
   refine AStep.mk (by decide) ?_;cbv;obtain⟨x13,hx13,h⟩:=aD h;obtain⟨x13_Leg,x13_Day⟩:=x13;try dsimp only at h
   refine AGet.mk _ (mG hg ht hx13) ?_;cbv;iterate 4 try(rw[hb7];cbv)
   cases hb8:(all [(eq x13_Leg x7_Leg),(eq x13_Day x7_Day)])
   ·rw[aa hb8] at h;cbv;iterate 5 try(rw[hb8];cbv)
    obtain rfl:=Option.some.inj h;exact ARet.mk trivial hX.symm
   rw[ab hb8] at h;cbv;iterate 4 try(rw[hb8];cbv)
   obtain⟨x14,hx14,h⟩:=af h;try dsimp only at h
   refine ACall.mk _ _ rfl (hF _ _ _ (vK hg ht hx14)) (.inl rfl) (nb rfl) ?_;cbv;try(rw[hb8];cbv)
   obtain rfl:=Option.some.inj h;exact ARet.mk trivial hX.symm
  rw[aa hb3] at h;have hK_:=h;subst hb3;have h:=hK_;clear hK_;cbv;obtain rfl:=Option.some.inj h;exact ARet.mk trivial hX.symm
 rw[aa hb2] at h;have hK_:=h;subst hb2;have h:=hK_;clear hK_;cbv;have hb9:x4_2=true∨x4_2=false:=by cases x4_2<;>simp
 rcases hb9 with hb9|hb9
 ·rw[ab hb9] at h;have hK_:=h;subst hb9;have h:=hK_;clear hK_;cbv;obtain rfl:=Option.some.inj h;exact ARet.mk trivial hX.symm
 rw[aa hb9] at h;have hK_:=h;subst hb9;have h:=hK_;clear hK_;cbv;iterate 3 try(rw[hb2];cbv)
 obtain rfl:=Option.some.inj h;exact ARet.mk trivial hX.symm
end Go.Vs
