/- Part of the proofs of this seat's laws: Lab. No condition. -/
import Derived.Test.YtilplaaijbpilaaGreatTy
import Derived.Test.YtilplaaijbpilaaGreatTIRall
import Derived.Test.YtilplaaijbpilaaGreatLaa
set_option linter.unusedVariables false
set_option linter.unusedSimpArgs false
set_option linter.unusedSectionVars false
namespace Go.Vs
set_option maxRecDepth 100000
def G4:J:=js [jq 3 (.box 0),jm 6 kf] [1,2,3] (js [jm 7 1,jf 8 0 3,jk 9 8,jq 10 (.len false 9),jb 11 .sub .i 10 (ki 1),jc 12 102 [7,(ki 0),11],jm 13 12,ju 14 13 (.mv 2),ju 15 13 (.call 102 true [14,(ki 0),(ki 60)]),jq 16 (.pick 13 15 kf),jm 17 16,ju 18 17 (.fa 0 3),ju 19 17 (.ld false 1 18),ju 20 17 (.mv 1),ju 21 17 (.ia 6 19 20),ju 22 17 (.fa 4 21),ju 23 17 (.ld false 1 22),ju 24 17 (.mv 2),ju 25 17 (.bin .rem .i 24 (ki 7)),ju 26 17 (.bin .shr .i 23 25),ju 27 17 (.bin .and .i 26 (ki 1)),ju 28 17 (.bin .eql .i 27 (ki 1)),jq 29 (.pick 17 28 kf),jm 30 29,ju 31 30 (.fa 1 3),ju 32 30 (.ld false 1 31),ju 33 30 (.mv 2),ju 34 30 (.call 154 true [32,33]),ju 35 30 (.not 34),jq 36 (.pick 30 35 kf),jm 6 36] [6] .ret)
def G6:List RV:=[.t 6]
open Go.Proofs Go.IntWalk
set_option linter.unusedVariables false
set_option maxHeartbeats 4000000
def iE (g:G) (t:TE) (a0:Network) (a1:Int) (a2:Int):Option Bool:=
 lP (gu g t a1 0 (g.wrap .i64 (g.sub (g.llen (t.r_Leg a0.Legs)) 1))) fun x1=>
 br x1
 (
  lP (gu g t a2 0 60) fun x2=>
  br x2
  (
   gd (((0:Int)≤a1))<|
   gt a0.Legs (g.nat a1) fun x3=>
   gd (((0:Int)≤(g.rem a2 7)))<|
   br (g.eq (g.band .i64 (g.shr .i64 x3.Days (g.rem a2 7)) 1) 1)
   (
    lP (qO g t a0.Off a2) fun x4=>
    some (!x4))
   (
    some false))
  (
   some false))
 (
  some false)
theorem sW {g:G} {t:TE} {a0:Network} {a1:Int} {a2:Int} {r:Bool} (hg:g=G.real) (ht:t=TE.real) (h:iE g t a0 a1 a2=some r):Fn Tryz.prog 144 [.g (Network.rs t a0),.c (.v (.int .i64 a1)),.c (.v (.int .i64 a2))] (.c (.r (.v (.bool r)))):=by
 obtain⟨X,hX⟩:=aE (.c (.r (.v (.bool r))):X);rw[←hX];refine au (rvs:=G6) (j:=G4) Tryz.func144 rfl (by kernel_rfl) (nb rfl) (by kernel_rfl) ae ?_;intro g2 F hg2 hF;obtain rfl:g2=g:=hg2.unique.trans hg.symm;clear hg2;obtain⟨_,_,_,eq,_,rem,band,_,_,_,shr⟩:=g2;obtain⟨_⟩:=t
 obtain⟨a0_Legs,a0_Off,a0_Change⟩:=a0;unfold iE at h;try dsimp only at h
 cbv;obtain⟨x1,hx1,h⟩:=ak h;try dsimp only at h
 refine ACall.mk _ _ rfl (hF _ _ _ (fK hg ht hx1)) (.inl rfl) (nb rfl) ?_;cbv
 cases hb1:x1
 ·rw[aa hb1] at h;cbv;iterate 2 try(rw[hb1];cbv)
  obtain rfl:=Option.some.inj h;exact ARet.mk trivial hX.symm
 rw[ab hb1] at h;cbv;try(rw[hb1];cbv)
 obtain⟨x2,hx2,h⟩:=ak h;try dsimp only at h
 refine ACall.mk _ _ rfl (hF _ _ _ (fK hg ht hx2)) (.inl rfl) (nb rfl) ?_;cbv;try(rw[hb1];cbv)
 cases hb2:x2
 ·rw[aa hb2] at h;cbv;iterate 11 try(rw[hb2];cbv)
  obtain rfl:=Option.some.inj h;exact ARet.mk trivial hX.symm
 rw[ab hb2] at h;cbv;iterate 3 try(rw[hb2];cbv)
 obtain⟨hc1,h⟩:=ah h;refine AStep.mk hc1 ?_;cbv;obtain⟨x3,hx3,h⟩:=aB h;obtain⟨x3_From,x3_To,x3_Start,x3_Takes,x3_Days,x3_Room⟩:=x3;try dsimp only at h
 refine AGet.mk _ (ax hg ht hx3) ?_;cbv;iterate 4 try(rw[hb2];cbv)
 refine AStep.mk (by decide) ?_;cbv;try(rw[hb2];cbv)
 obtain⟨hc2,h⟩:=ah h;refine AStep.mk hc2 ?_;cbv;iterate 3 try(rw[hb2];cbv)
 cases hb3:(eq (band .i64 (shr .i64 x3_Days (rem a2 7)) 1) 1)
 ·rw[aa hb3] at h;cbv;iterate 5 try(rw[hb3];cbv)
  obtain rfl:=Option.some.inj h;exact ARet.mk trivial hX.symm
 rw[ab hb3] at h;cbv;iterate 3 try(rw[hb3];cbv)
 obtain⟨x4,hx4,h⟩:=ak h;try dsimp only at h
 refine ACall.mk _ _ rfl (hF _ _ _ (Bw hg ht hx4)) (.inl rfl) (nb rfl) ?_;cbv;iterate 2 try(rw[hb3];cbv)
 obtain rfl:=Option.some.inj h;exact ARet.mk trivial hX.symm
def H1:J:=js [jq 3 (.box 0),jm 6 kf] [1,2,3] (js [jl 7 3 3,jc 8 101 [7],jm 9 8,ju 10 9 (.ld true 3 3),ju 11 9 (.mv 1),ju 12 9 (.mv 2),ju 13 9 (.call 144 true [10,11,12]),jq 14 (.pick 9 13 kf),jm 6 14] [6] .ret)
def G1:List RV:=[.t 6]
def nZ (g:G) (t:TE) (a0:Network) (a1:Int) (a2:Int):Option Bool:=
 cl (dY g t a0) fun x1=>
 br x1
 (
  cl (iE g t a0 a1 a2) fun x2=>
  some x2)
 (
  some false)
theorem xZ {g:G} {t:TE} {a0:Network} {a1:Int} {a2:Int} {r:Bool} (hg:g=G.real) (ht:t=TE.real) (h:nZ g t a0 a1 a2=some r):Fn Tryz.prog 125 [.g (Network.rs t a0),.c (.v (.int .i64 a1)),.c (.v (.int .i64 a2))] (.c (.r (.v (.bool r)))):=by
 obtain⟨X,hX⟩:=aE (.c (.r (.v (.bool r))):X);rw[←hX];refine au (rvs:=G1) (j:=H1) Tryz.func125 rfl (by kernel_rfl) (nb rfl) (by kernel_rfl) ae ?_;intro g2 F hg2 hF;obtain rfl:g2=g:=hg2.unique.trans hg.symm;clear hg2;obtain⟨_⟩:=g2;obtain⟨_⟩:=t
 obtain⟨a0_Legs,a0_Off,a0_Change⟩:=a0;unfold nZ at h;try dsimp only at h
 cbv;obtain⟨x1,hx1,h⟩:=ac h;try dsimp only at h
 refine ACall.mk _ _ rfl (hF _ _ _ (kz hg ht hx1)) (.inl rfl) (nb rfl) ?_;cbv
 cases hb1:x1
 ·rw[aa hb1] at h;cbv;iterate 4 try(rw[hb1];cbv)
  obtain rfl:=Option.some.inj h;exact ARet.mk trivial hX.symm
 rw[ab hb1] at h;cbv;iterate 3 try(rw[hb1];cbv)
 obtain⟨x2,hx2,h⟩:=ac h;try dsimp only at h
 refine ACall.mk _ _ rfl (hF _ _ _ (sW hg ht hx2)) (.inl rfl) (nb rfl) ?_;cbv;try(rw[hb1];cbv)
 obtain rfl:=Option.some.inj h;exact ARet.mk trivial hX.symm
def ir91:J:=js [jq 2 (.box 0),jq 3 (.box 1),jm 4 kf] [2,3] (js [jl 5 3 2,jf 6 0 3,jk 7 6,jf 8 1 3,jk 9 8,jc 10 125 [5,7,9],jm 4 10] [4] .ret)
def rv91:List RV:=[.t 4]
def iJ (g:G) (t:TE) (a0:Network) (a1:Trip):Option Bool:=
 cl (nZ g t a0 a1.Leg a1.Day) fun x1=>
 some x1
theorem nP {g:G} {t:TE} {a0:Network} {a1:Trip} {r:Bool} (hg:g=G.real) (ht:t=TE.real) (h:iJ g t a0 a1=some r):Fn Tryz.prog 91 [.g (Network.rs t a0),.g (Trip.rs t a1)] (.c (.r (.v (.bool r)))):=by
 obtain⟨X,hX⟩:=aE (.c (.r (.v (.bool r))):X);rw[←hX];refine au (rvs:=rv91) (j:=ir91) Tryz.func91 rfl (by kernel_rfl) (nb rfl) (by kernel_rfl) ae ?_;intro g2 F hg2 hF;obtain rfl:g2=g:=hg2.unique.trans hg.symm;clear hg2;obtain⟨_⟩:=g2;obtain⟨_⟩:=t
 obtain⟨a0_Legs,a0_Off,a0_Change⟩:=a0;obtain⟨a1_Leg,a1_Day⟩:=a1;unfold iJ at h;try dsimp only at h
 cbv;obtain⟨x1,hx1,h⟩:=ac h;try dsimp only at h
 refine ACall.mk _ _ rfl (hF _ _ _ (xZ hg ht hx1)) (.inl rfl) (nb rfl) ?_;cbv;obtain rfl:=Option.some.inj h;exact ARet.mk trivial hX.symm
def ir62 (s_k0:ByteArray):J:=js [jq 2 (.box 0),jq 3 (.box 1),jm 4 kf] [2,3] (.seq (js [jl 5 3 2,jc 6 101 [5],jq 7 (.not 6),jm 8 7,jv 9 8 (.fa 0 3),jv 10 8 (.ld false 1 9),jv 11 8 (.call 102 true [10,(ki 1),(ki 9999)]),jv 12 8 (.not 11),jq 13 (.pick 8 kt 12),jm 14 13,jv 15 14 (.fa 1 3),jv 16 14 (.ld false 1 15),jv 17 14 (.call 102 true [16,(ki 0),(ki 100000)]),jv 18 14 (.not 17),jq 19 (.pick 14 kt 18)] [2,3,19] (.cond 19 (js [jm 4 kf] [4] .ret) .skip)) (.seq (js [jf 20 2 3,jk 21 20] [2,3,21] (.block 0 (.seq (js [jb 23 .eql .i 21 (ki 1),jm 22 23] [2,3,21,22] (.cond 22 .skip (.reg none [jb 24 .eql .i 21 (ki 4),jm 22 24] [2,3,21,22]))) (.cond 22 (.seq (.reg (some [[],[0],[],[2],[0,1,2,3],[0,1,2,3,4],[0,1,2,3,4,5],[0,1,2,3,4,5,6],[0,1,2,3,4,5,6,7],[0,1,2,3,4,5,6],[0,1,2,3,4,5,6,7,8,9],[0,1,2,3,4,5,6,7,8,9,10],[0,1,2,3,4,5,6,7,8,9,10,11]]) [jl 25 3 2,jc 26 78 [25],jf 27 3 3,jk 28 27,jc 29 77 [26,28],jb 30 .geq .i 29 (ki 0),jm 31 30,ju 32 31 (.fa 4 3),ju 33 31 (.ld true 2 32),ju 34 31 (.bld [.r (.v (.int .i64 0)),.r (.v (.int .i64 0))] []),ju 35 31 (.eqs false [.i,.i] 33 34),jq 36 (.pick 31 35 kf),jm 4 36] [4]) .ret) (js [jb 38 .eql .i 21 (ki 3),jm 37 38] [2,3,21,37] (.cond 37 (.seq (.reg (some [[],[0],[0,1],[0,1,2],[0,1,2,3],[0,1,2,3],[0,1,2,3,5],[0,1,2,3,4,5,6],[0,1,2,3,4,5,6,7],[0,1,2,3,4,5,6,7,8],[0,1,2,3,4,5,6,7,8,9],[0,1,2,3,4,5,6,7,8,9,10],[0,1,2,3,4,5,6,7,8,9],[0,1,2,3,4,5,6,7,8,9],[0,1,2,3,4,5,6,7,8,9,13],[0,1,2,3,4,5,6,7,8,9,12,13,14],[0,1,2,3,4,5,6,7,8,9,10,11,12,13,14,15],[0,1,2,3,4,5,6,7,8,9,10,11,12,13,14,15,16],[0,1,2,3,4,5,6,7,8,9,10,11,12,13,14,15,16,17]]) [jf 39 3 3,jk 40 39,jq 41 (.bin .eql .s 40 (.k (.c (.r (.v (.string s_k0)))))),jm 42 41,ju 43 42 (.ld true 3 2),ju 44 42 (.fa 4 3),ju 45 42 (.ld true 2 44),ju 46 42 (.call 91 true [43,45]),jq 47 (.pick 42 46 kf),jm 48 47,ju 49 48 (.fa 1 3),ju 50 48 (.ld false 1 49),ju 51 48 (.ld true 3 2),ju 52 48 (.fa 4 3),ju 53 48 (.ld true 2 52),ju 54 48 (.call 85 true [51,53]),ju 55 48 (.bin .leq .i 50 54),jq 56 (.pick 48 55 kf),jm 4 56] [4]) .ret) (js [jb 58 .eql .i 21 (ki 2),jm 57 58] [2,3,57] (.cond 57 (.seq (.reg (some [[],[0],[0,1],[0,1,2],[0,1,2,3],[0,1,2,3],[0,1,2,3,5],[0,1,2,3,4,5,6],[0,1,2,3,4,5,6,7],[0,1,2,3,4,5,6,7,8],[0,1,2,3,4,5,6,7,8,9],[0,1,2,3,4,5,6,7,8,9,10],[0,1,2,3,4,5,6,7,8,9],[0,1,2,3,4,5,6,7,8,9],[0,1,2,3,4,5,6,7,8,9,13],[0,1,2,3,4,5,6,7,8,9,12,13,14],[0,1,2,3,4,5,6,7,8,9,10,11,12,13,14,15],[0,1,2,3,4,5,6,7,8,9,10,11,12,13,14,15,16],[0,1,2,3,4,5,6,7,8,9,10,11,12,13,14,15,16,17]]) [jf 59 3 3,jk 60 59,jq 61 (.bin
 .eql .s 60 (.k (.c (.r (.v (.string s_k0)))))),jm 62 61,ju 63 62 (.ld true 3 2),ju 64 62 (.fa 4 3),ju 65 62 (.ld true 2 64),ju 66 62 (.call 91 true [63,65]),jq 67 (.pick 62 66 kf),jm 68 67,ju 69 68 (.fa 1 3),ju 70 68 (.ld false 1 69),ju 71 68 (.ld true 3 2),ju 72 68 (.fa 4 3),ju 73 68 (.ld true 2 72),ju 74 68 (.call 86 true [71,73]),ju 75 68 (.bin .geq .i 70 74),jq 76 (.pick 68 75 kf),jm 4 76] [4]) .ret) .skip)))))))) (js [jm 4 kf] [4] .ret)))
def rv62:List RV:=[.t 4]
def gc (g:G) (t:TE) (a0:Network) (a1:Scan):Option Bool:=
 cl (dY g t a0) fun x1=>
 br x1
 (
  lP (gu g t a1.Thing 1 9999) fun x2=>
  br x2
  (
   lP (gu g t a1.At 0 100000) fun x3=>
   br x3
   (
    br (g.eq a1.Kind 1)
    (
     cl (dH g t a0) fun x4=>
     lP (eA g t x4 a1.Place) fun x5=>
     br (g.le 0 x5)
     (
      some (g.all [(g.eq a1.Trip.Leg 0),(g.eq a1.Trip.Day 0)]))
     (
      some false))
    (
     br (g.eq a1.Kind 4)
     (
      cl (dH g t a0) fun x6=>
      lP (eA g t x6 a1.Place) fun x7=>
      br (g.le 0 x7)
      (
       some (g.all [(g.eq a1.Trip.Leg 0),(g.eq a1.Trip.Day 0)]))
      (
       some false))
     (
      br (g.eq a1.Kind 3)
      (
       br (g.seq a1.Place str_k0)
       (
        cl (iJ g t a0 (Trip.mk a1.Trip.Leg a1.Trip.Day)) fun x8=>
        br x8
        (
         cl (aU g t a0 (Trip.mk a1.Trip.Leg a1.Trip.Day)) fun x9=>
         some (g.le a1.At x9))
        (
         some false))
       (
        some false))
      (
       br (g.eq a1.Kind 2)
       (
        br (g.seq a1.Place str_k0)
        (
         cl (iJ g t a0 (Trip.mk a1.Trip.Leg a1.Trip.Day)) fun x10=>
         br x10
         (
          cl (bw g t a0 (Trip.mk a1.Trip.Leg a1.Trip.Day)) fun x11=>
          some (g.le x11 a1.At))
         (
          some false))
        (
         some false))
       (
        some false)))))
   (
    some false))
  (
   some false))
 (
  some false)
theorem hC {g:G} {t:TE} {a0:Network} {a1:Scan} {r:Bool} (hg:g=G.real) (ht:t=TE.real) (h:gc g t a0 a1=some r):Fn Tryz.prog 62 [.g (Network.rs t a0),.g (Scan.rs t a1)] (.c (.r (.v (.bool r)))):=by
 obtain⟨X,hX⟩:=aE (.c (.r (.v (.bool r))):X);rw[←hX];refine au (rvs:=rv62) (j:=(ir62 str_k0)) Tryz.func62 rfl (by kernel_rfl) (nb rfl) (by kernel_rfl) ae ?_;intro g2 F hg2 hF;obtain rfl:g2=g:=hg2.unique.trans hg.symm;clear hg2;obtain⟨_,_,le,eq,_,_,_,_,_,_,_,_,_,_,_,_,_,seq,_,_,_,_,_,_,dlen,_,_,_,rd⟩:=g2;obtain⟨_,_,_,_,_,_,r_S,d_S⟩:=t
 obtain⟨a0_Legs,a0_Off,a0_Change⟩:=a0;obtain⟨a1_Thing,a1_At,a1_Kind,a1_Place,⟨a1_Trip_Leg,a1_Trip_Day⟩⟩:=a1;unfold gc at h;try dsimp only at h
 obtain⟨s_k0,hs_k0⟩:∃s,str_k0=s:=⟨_,rfl⟩;try rw[hs_k0] at h
 rw[hs_k0];cbv;obtain⟨x1,hx1,h⟩:=ac h;try dsimp only at h
 refine ACall.mk _ _ rfl (hF _ _ _ (kz hg ht hx1)) (.inl rfl) (nb rfl) ?_;cbv
 cases hb1:x1
 ·rw[aa hb1] at h;cbv;iterate 4 try(rw[hb1];cbv)
  obtain rfl:=Option.some.inj h;exact ARet.mk trivial hX.symm
 rw[ab hb1] at h;cbv;iterate 2 try(rw[hb1];cbv)
 obtain⟨x2,hx2,h⟩:=ak h;try dsimp only at h
 refine ACall.mk _ _ rfl (hF _ _ _ (fK hg ht hx2)) (.inl rfl) (nb rfl) ?_;cbv;iterate 2 try(rw[hb1];cbv)
 cases hb2:x2
 ·rw[aa hb2] at h;cbv;iterate 4 try(rw[hb2];cbv)
  obtain rfl:=Option.some.inj h;exact ARet.mk trivial hX.symm
 rw[ab hb2] at h;cbv;iterate 2 try(rw[hb2];cbv)
 obtain⟨x3,hx3,h⟩:=ak h;try dsimp only at h
 refine ACall.mk _ _ rfl (hF _ _ _ (fK hg ht hx3)) (.inl rfl) (nb rfl) ?_;cbv;iterate 2 try(rw[hb2];cbv)
 cases hb3:x3
 ·rw[aa hb3] at h;cbv;obtain rfl:=Option.some.inj h;exact ARet.mk trivial hX.symm
 rw[ab hb3] at h;cbv
 cases hb4:(eq a1_Kind 1)
 rotate_left
 ·rw[ab hb4] at h;cbv;try(rw[hb4];cbv)
  obtain⟨x4,hx4,h⟩:=ac h;try dsimp only at h
  refine ACall.mk _ _ rfl (hF _ _ _ (eT hg ht hx4)) (.inl rfl) (nb rfl) ?_;cbv;refine AStep.mk (dN ht (al hg ht _)) ?_;cbv;obtain⟨x5,hx5,h⟩:=ak h;try dsimp only at h
  refine ACall.mk _ _ (by rw[show rd (d_S x4) 0 (dlen (d_S x4))=r_S x4 from f7 hg ht (al hg ht _)];try rfl) (hF _ _ _ (fH hg ht hx5)) (.inr rfl) (nb rfl) ?_
  cbv
  cases hb5:(le 0 x5)
  rotate_left
  ·rw[ab hb5] at h;cbv;iterate 4 try(rw[hb5];cbv)
   obtain rfl:=Option.some.inj h;exact ARet.mk trivial hX.symm
  rw[aa hb5] at h;cbv;iterate 4 try(rw[hb5];cbv)
  obtain rfl:=Option.some.inj h;exact ARet.mk trivial hX.symm
 rw[aa hb4] at h;cbv
 cases hb6:(eq a1_Kind 4)
 rotate_left
 ·rw[ab hb6] at h;cbv;obtain⟨x6,hx6,h⟩:=ac h;try dsimp only at h
  refine ACall.mk _ _ rfl (hF _ _ _ (eT hg ht hx6)) (.inl rfl) (nb rfl) ?_;cbv;refine AStep.mk (dN ht (al hg ht _)) ?_;cbv;obtain⟨x7,hx7,h⟩:=ak h;try dsimp only at h
  refine ACall.mk _ _ (by rw[show rd (d_S x6) 0 (dlen (d_S x6))=r_S x6 from f7 hg ht (al hg ht _)];try rfl) (hF _ _ _ (fH hg ht hx7)) (.inr rfl) (nb rfl) ?_
  cbv
  cases hb7:(le 0 x7)
  rotate_left
  ·rw[ab hb7] at h;cbv;iterate 4 try(rw[hb7];cbv)
   obtain rfl:=Option.some.inj h;exact ARet.mk trivial hX.symm
  rw[aa hb7] at h;cbv;iterate 4 try(rw[hb7];cbv)
  obtain rfl:=Option.some.inj h;exact ARet.mk trivial hX.symm
 rw[aa hb6] at h;cbv
 cases hb8:(eq a1_Kind 3)
 rotate_left
 ·rw[ab hb8] at h;cbv
  cases hb9:(seq a1_Place s_k0)
  ·rw[aa hb9] at h;cbv;iterate 4 try(rw[hb9];cbv)
   obtain rfl:=Option.some.inj h;exact ARet.mk trivial hX.symm
  rw[ab hb9] at h;cbv;iterate 3 try(rw[hb9];cbv)
  obtain⟨x8,hx8,h⟩:=ac h;try dsimp only at h
  refine ACall.mk _ _ rfl (hF _ _ _ (nP hg ht hx8)) (.inl rfl) (nb rfl) ?_;cbv;try(rw[hb9];cbv)
  cases hb10:x8
  ·rw[aa hb10] at h;cbv;iterate 7 try(rw[hb10];cbv)
   obtain rfl:=Option.some.inj h;exact ARet.mk trivial hX.symm
  rw[ab hb10] at h;cbv;iterate 5 try(rw[hb10];cbv)
  obtain⟨x9,hx9,h⟩:=ac h;try dsimp only at h
  refine ACall.mk _ _ rfl (hF _ _ _ (ba hg ht hx9)) (.inl rfl) (nb rfl) ?_;cbv;iterate 2 try(rw[hb10];cbv)
  obtain rfl:=Option.some.inj h;exact ARet.mk trivial hX.symm
 rw[aa hb8] at h;cbv
 cases hb11:(eq a1_Kind 2)
 ·rw[aa hb11] at h;cbv;obtain rfl:=Option.some.inj h;exact ARet.mk trivial hX.symm
 rw[ab hb11] at h;cbv
 cases hb12:(seq a1_Place s_k0)
 ·rw[aa hb12] at h;cbv;iterate 4 try(rw[hb12];cbv)
  obtain rfl:=Option.some.inj h;exact ARet.mk trivial hX.symm
 rw[ab hb12] at h;cbv;iterate 3 try(rw[hb12];cbv)
 obtain⟨x10,hx10,h⟩:=ac h;try dsimp only at h
 refine ACall.mk _ _ rfl (hF _ _ _ (nP hg ht hx10)) (.inl rfl) (nb rfl) ?_;cbv;try(rw[hb12];cbv)
 cases hb13:x10
 ·rw[aa hb13] at h;cbv;iterate 7 try(rw[hb13];cbv)
  obtain rfl:=Option.some.inj h;exact ARet.mk trivial hX.symm
 rw[ab hb13] at h;cbv;iterate 5 try(rw[hb13];cbv)
 obtain⟨x11,hx11,h⟩:=ac h;try dsimp only at h
 refine ACall.mk _ _ rfl (hF _ _ _ (bu hg ht hx11)) (.inl rfl) (nb rfl) ?_;cbv;iterate 2 try(rw[hb13];cbv)
 obtain rfl:=Option.some.inj h;exact ARet.mk trivial hX.symm
def ir63:J:=js [jq 2 (.box 0),jq 3 (.box 1),jm 4 (ki 0)] [2,3] (js [jf 8 1 2,jk 9 8,jf 10 0 2,jk 11 10,jf 12 2 2,jk 13 12,jf 14 4 2,jf 15 1 14,jk 16 15,jf 17 4 2,jf 18 0 17,jk 19 18,jq 20 (.bsl 1 [9,11,13,16,19]),jm 5 20] [2,3,5] (js [jf 21 1 3,jk 22 21,jf 23 0 3,jk 24 23,jf 25 2 3,jk 26 25,jf 27 4 3,jf 28 1 27,jk 29 28,jf 30 4 3,jf 31 0 30,jk 32 31,jq 33 (.bsl 1 [22,24,26,29,32]),jm 6 33] [2,3,5,6] (.seq (js [jm 7 (ki 0)] [2,3,5,6,7] (.bl 0 (.seq (js [jm 34 7,jm 35 5,jq 36 (.len false 35),jb 37 .lss .i 34 36] [2,3,5,6,7,37] (.cond 37 .skip (.exit 0))) (.seq (.block 1 (.seq (.seq (.reg (some [[],[],[0,1],[0,1,2],[],[],[4,5],[4,5,6],[0,1,2,3,4,5,6,7]]) [jm 40 5,jm 41 7,ja 42 1 40 41,jk 43 42,jm 44 6,jm 45 7,ja 46 1 44 45,jk 47 46,jb 48 .lss .i 43 47] [2,3,5,6,7,48]) (.cond 48 (js [jq 4 (.mv (.k (V.i (-1))))] [4] .ret) .skip)) (.seq (.reg (some [[],[],[0,1],[0,1,2],[],[],[4,5],[4,5,6],[0,1,2,3,4,5,6,7]]) [jm 49 5,jm 50 7,ja 51 1 49 50,jk 52 51,jm 53 6,jm 54 7,ja 55 1 53 54,jk 56 55,jb 57 .gtr .i 52 56] [2,3,5,6,7,57]) (.cond 57 (js [jm 4 (ki 1)] [4] .ret) .skip)))) (.reg none [jm 38 7,jb 39 .add .i 38 (ki 1),jm 7 39] [2,3,5,6,7]))))) (.seq (.block 2 (js [jf 59 3 2,jk 60 59,jf 61 3 3,jk 62 61,jb 63 .lss .s 60 62,jm 58 63] [2,3,58] (.cond 58 (js [jq 4 (.mv (.k (V.i (-1))))] [4] .ret) (js [jf 65 3 2,jk 66 65,jf 67 3 3,jk 68 67,jb 69 .gtr .s 66 68,jm 64 69] [64] (.cond 64 (js [jm 4 (ki 1)] [4] .ret) .skip))))) (js [jm 4 (ki 0)] [4] .ret)))))
def rv63:List RV:=[.t 4]
def bk (g:G) (t:TE) (l1:List Int) (l2:List Int):Nat→Int→Option (LR Int Unit)
 |0,v1=>
  some (LR.out ())
 |n1+1,v1=>
  gt l1 (g.nat v1) fun x1=>
  gd (((0:Int)≤v1∧v1<(((g.dlen (t.d_I64 l2)):Nat):Int)))<|
  gt l2 (g.nat v1) fun x2=>
  br (g.lt x1 x2)
  (
   some (LR.ret (-1)))
  (
   gd (((0:Int)≤v1∧v1<(((g.dlen (t.d_I64 l2)):Nat):Int)))<|
   br (g.lt x2 x1)
   (
    some (LR.ret 1))
   (
    bk g t l1 l2 n1 (g.wrap .i64 (g.add v1 1))))
def dD (g:G) (t:TE) (a0:Scan) (a1:Scan):Option Int:=
 lP ([a0.At,a0.Thing,a0.Kind,a0.Trip.Day,a0.Trip.Leg]) fun(l1:List Int)=>
 lP ([a1.At,a1.Thing,a1.Kind,a1.Trip.Day,a1.Trip.Leg]) fun(l2:List Int)=>
 gd (((g.int (g.dlen (t.d_I64 l1)))≤9223372036854775807))<|
 cl (bk g t l1 l2 (aq 0 (g.int (g.dlen (t.d_I64 l1)))) 0) fun o1=>lr o1 fun y1=>
 br (g.slt a0.Place a1.Place)
 (
  some (-1))
 (
  br (g.sle a0.Place a1.Place)
  (
   some 0)
  (
   some 1))
theorem kC {g:G} {t:TE} {a0:Scan} {a1:Scan} {r:Int} (hg:g=G.real) (ht:t=TE.real) (h:dD g t a0 a1=some r):Fn Tryz.prog 63 [.g (Scan.rs t a0),.g (Scan.rs t a1)] (.c (.r (.v (.int .i64 r)))):=by
 obtain⟨X,hX⟩:=aE (.c (.r (.v (.int .i64 r))):X);rw[←hX];refine au (rvs:=rv63) (j:=ir63) Tryz.func63 rfl (by kernel_rfl) (nb rfl) (by kernel_rfl) ae ?_;intro g2 F hg2 hF;obtain rfl:g2=g:=hg2.unique.trans hg.symm;clear hg2;obtain⟨wrap,lt,_,_,_,_,_,_,_,_,_,_,int,add,_,_,_,_,slt,_,_,_,_,_,dlen,_,_,_,_,_,_,_,_,_,sle⟩:=g2;obtain⟨_,_,_,d_I64⟩:=t
 obtain⟨a0_Thing,a0_At,a0_Kind,a0_Place,⟨a0_Trip_Leg,a0_Trip_Day⟩⟩:=a0;obtain⟨a1_Thing,a1_At,a1_Kind,a1_Place,⟨a1_Trip_Leg,a1_Trip_Day⟩⟩:=a1;unfold dD at h;try dsimp only at h
 cbv;obtain⟨l1,hl1,h⟩:=ak h;try dsimp only at h
 refine ANew.mk (d_I64 l1) (dlen (d_I64 l1)) (by rw[←hl1];exact fo hg ht [a0_At,a0_Thing,a0_Kind,a0_Trip_Day,a0_Trip_Leg]) (by rw[←hl1];exact dX hg ht [a0_At,a0_Thing,a0_Kind,a0_Trip_Day,a0_Trip_Leg]) ?_;cbv;obtain⟨l2,hl2,h⟩:=ak h;try dsimp only at h
 refine ANew.mk (d_I64 l2) (dlen (d_I64 l2)) (by rw[←hl2];exact fo hg ht [a1_At,a1_Thing,a1_Kind,a1_Trip_Day,a1_Trip_Leg]) (by rw[←hl2];exact dX hg ht [a1_At,a1_Thing,a1_Kind,a1_Trip_Day,a1_Trip_Leg]) ?_;cbv;obtain⟨hB1,h⟩:=ah h;obtain⟨o1,ho1,h⟩:=ac h;try dsimp only at h
 try rw[hg] at ho1
 try rw[ht] at ho1
 refine ABL.mk {p:Nat×Int//p.1=aq p.2 (int (dlen (d_I64 l1)))∧0≤p.2∧bk G.real TE.real l1 l2 p.1 p.2=some o1} (fun⟨⟨n1,v1⟩,_⟩=>({sl:=[(2,.c (.p 0 6 0 0)),(3,.c (.p 1 6 0 0)),(5,.c (.f 2 1 0 (dlen (d_I64 l1)))),(6,.c (.f 3 1 0 (dlen (d_I64 l2)))),(7,.c (.r (.v (.int .i64 v1))))],tab:=[(0,some (.foc 6 [] [.r (.v (.int .i64 a0_Thing)),.r (.v (.int .i64 a0_At)),.r (.v (.int .i64 a0_Kind)),.r (.v (.string a0_Place)),.r (.v (.int .i64 a0_Trip_Leg)),.r (.v (.int .i64 a0_Trip_Day))] [])),(1,some (.foc 6 [] [.r (.v (.int .i64 a1_Thing)),.r (.v (.int .i64 a1_At)),.r (.v (.int .i64 a1_Kind)),.r (.v (.string a1_Place)),.r (.v (.int .i64 a1_Trip_Leg)),.r (.v (.int .i64 a1_Trip_Day))] [])),(2,some (.arr 1 (d_I64 l1))),(3,some (.arr 1 (d_I64 l2)))]}:St)) 4 (fun p=>p.1.1) ⟨(aq 0 (int (dlen (d_I64 l1))),0),rfl,Int.le_refl _,ho1⟩ (Unit) (fun _=>({sl:=[(2,.c (.p 0 6 0 0)),(3,.c (.p 1 6 0 0))],tab:=[(0,some (.foc 6 [] [.r (.v (.int .i64 a0_Thing)),.r (.v (.int .i64 a0_At)),.r (.v (.int .i64 a0_Kind)),.r (.v (.string a0_Place)),.r (.v (.int .i64 a0_Trip_Leg)),.r (.v (.int .i64 a0_Trip_Day))] [])),(1,some (.foc 6 [] [.r (.v (.int .i64 a1_Thing)),.r (.v (.int .i64 a1_At)),.r (.v (.int .i64 a1_Kind)),.r (.v (.string a1_Place)),.r (.v (.int .i64 a1_Trip_Leg)),.r (.v (.int .i64 a1_Trip_Day))] []))]}:St)) 2 (fun y=>o1=LR.out y) ?_ ?_ ?_
 ·refine Wk.of [(0,some 0),(1,some 16),(2,some 240),(3,some 464)] rfl rfl ?_ ?_
  ·cbv;all_goals exact⟨⟨_,rfl,rfl⟩,⟨_,rfl,rfl⟩,⟨_,rfl,rfl⟩,⟨_,rfl,rfl⟩,⟨_,rfl,rfl⟩,trivial⟩
  cbv;all_goals exact⟨⟨_,rfl,_,rfl,rfl,rfl,rfl,rfl,rfl,rfl,trivial⟩,⟨_,rfl,_,rfl,rfl,rfl,rfl,rfl,rfl,rfl,trivial⟩,⟨_,rfl,rfl⟩,⟨_,rfl,rfl⟩,trivial⟩
 ·rintro⟨⟨n1,v1⟩,hn1,hi1,h_1⟩ hq1;try dsimp only at hn1 hi1 h_1
  clear hq1;cbv;rcases n1 with _|n1
  ·have hb1:lt v1 (int (dlen (d_I64 l1)))=false:=be hg hn1;rw[bk] at h_1;try rw[←hg] at h_1
   try rw[←ht] at h_1
   try dsimp only at h_1
   rw[hb1];cbv;refine⟨(),Wk.of [(0,some 0),(1,some 1)] rfl rfl ?_ ?_,(Option.some.inj h_1).symm⟩
   ·cbv;all_goals exact⟨⟨_,rfl,rfl⟩,⟨_,rfl,rfl⟩,trivial⟩
   cbv;all_goals exact⟨⟨_,rfl,_,rfl,rfl,rfl,rfl,rfl,rfl,rfl,trivial⟩,⟨_,rfl,_,rfl,rfl,rfl,rfl,rfl,rfl,rfl,trivial⟩,trivial⟩
  have hb1:lt v1 (int (dlen (d_I64 l1)))=true:=bF hg hn1;have hl1:=dM hn1;have hs1:=cF hg hn1 hi1 hB1 (by decide);rw[bk] at h_1;try rw[←hg] at h_1
  try rw[←ht] at h_1
  try dsimp only at h_1
  rw[hb1];cbv;refine AStep.mk (dB hg hi1 hl1) ?_;cbv;obtain⟨x1,hx1,h_1⟩:=aB h_1;try dsimp only at h_1
  refine AGet.mk _ (bD hg ht hx1) ?_;cbv;obtain⟨hc1,h_1⟩:=ah h_1;refine AStep.mk hc1 ?_;cbv;obtain⟨x2,hx2,h_1⟩:=aB h_1;try dsimp only at h_1
  refine AGet.mk _ (bD hg ht hx2) ?_;cbv
  cases hb2:(lt x1 x2)
  rotate_left
  ·rw[ab hb2] at h_1;cbv;obtain rfl:=Option.some.inj h_1;try dsimp only[lr,lrL,lrp,aP] at h
   obtain rfl:=Option.some.inj h;exact ARet.mk trivial hX.symm
  rw[aa hb2] at h_1;cbv;refine AStep.mk (dB hg hi1 hl1) ?_;cbv;refine AGet.mk _ (bD hg ht hx1) ?_;cbv;obtain⟨hc2,h_1⟩:=ah h_1;refine AStep.mk hc2 ?_;cbv;refine AGet.mk _ (bD hg ht hx2) ?_;cbv
  cases hb3:(lt x2 x1)
  rotate_left
  ·rw[ab hb3] at h_1;cbv;obtain rfl:=Option.some.inj h_1;try dsimp only[lr,lrL,lrp,aP] at h
   obtain rfl:=Option.some.inj h;exact ARet.mk trivial hX.symm
  rw[aa hb3] at h_1;cbv;try rw[hg] at h_1
  try rw[ht] at h_1
  refine⟨⟨(n1,(wrap .i64 (add v1 1))),hs1.1,hs1.2,h_1⟩,Wk.of [(0,some 0),(1,some 1),(2,some 2),(3,some 3)] rfl rfl ?_ ?_,Nat.lt_succ_self _⟩
  ·cbv;all_goals exact⟨⟨_,rfl,rfl⟩,⟨_,rfl,rfl⟩,⟨_,rfl,rfl⟩,⟨_,rfl,rfl⟩,⟨_,rfl,rfl⟩,trivial⟩
  cbv;all_goals exact⟨⟨_,rfl,_,rfl,rfl,rfl,rfl,rfl,rfl,rfl,trivial⟩,⟨_,rfl,_,rfl,rfl,rfl,rfl,rfl,rfl,rfl,trivial⟩,⟨_,rfl,rfl⟩,⟨_,rfl,rfl⟩,trivial⟩
 rintro _ hy1;replace hy1:=hy1.symm;subst hy1;try dsimp only[lr,lrL,lrp,aP] at h
 cbv
 cases hb4:(slt a0_Place a1_Place)
 rotate_left
 ·rw[ab hb4] at h;cbv;obtain rfl:=Option.some.inj h;exact ARet.mk trivial hX.symm
 rw[aa hb4] at h;cbv
 cases hb5:(sle a0_Place a1_Place)
 rotate_left
 ·rw[ab hb5] at h;cbv;obtain rfl:=Option.some.inj h;exact ARet.mk trivial hX.symm
 rw[aa hb5] at h;cbv;obtain rfl:=Option.some.inj h;exact ARet.mk trivial hX.symm
def ir17:J:=js [jq 2 (.box 0),jq 4 (.mv (.k (.c (.n 6))))] [1,2] (js [jq 8 (.bsl 6 []),jm 5 8] [1,2,5] (.seq (js [jm 6 (ki 0)] [1,2,5,6] (.bl 0 (.seq (js [jm 9 6,jm 10 1,jq 11 (.len false 10),jb 12 .lss .i 9 11,jm 13 12,ju 14 13 (.mv 6),ju 15 13 (.bin .lss .i 14 (ki 200)),jq 16 (.pick 13 15 kf)] [1,2,5,6,16] (.cond 16 .skip (.exit 0))) (.seq (.block 1 (.seq (.seq (.reg (some [[],[],[],[1,2],[1,2,3],[0,1,2,3,4],[0,1,2,3,4,5]]) [jl 19 3 2,jm 20 1,jm 21 6,ja 22 6 20 21,jl 23 6 22,jc 24 62 [19,23],jq 25 (.not 24)] [1,2,5,6,25]) (.cond 25 (.exit 1) .skip)) (js [jm 7 (ki 0)] [1,2,5,6,7] (.seq (.bl 2 (.seq (.seq (.reg (some [[],[],[1],[0,1,2],[0,1,2,3],[0,1,2,3,4],[0,1,2,3,4],[0,1,2,3,4,5,6],[0,1,2,3,4,5,6,7],[0,1,2,3,4],[0,1,2,3,4],[0,1,2,3,4,9,10],[0,1,2,3,4,9,10,11],[0,1,2,3,4,5,6,7,8,9,10,11,12],[0,1,2,3,4,5,6,7,8,9,10,11,12,13],[0,1,2,3,4,5,6,7,8,9,10,11,12,13,14]]) [jm 26 7,jm 27 5,jq 28 (.len false 27),jb 29 .lss .i 26 28,jm 30 29,ju 31 30 (.mv 5),ju 32 30 (.mv 7),ju 33 30 (.ia 6 31 32),ju 34 30 (.ld true 6 33),ju 35 30 (.mv 1),ju 36 30 (.mv 6),ju 37 30 (.ia 6 35 36),ju 38 30 (.ld true 6 37),ju 39 30 (.call 63 true [34,38]),ju 40 30 (.bin .lss .i 39 (ki 0)),jq 41 (.pick 30 40 kf)] [1,2,5,6,7,41]) (.cond 41 .skip (.exit 2))) (.block 3 (.reg none [jm 42 7,jb 43 .add .i 42 (ki 1),jm 7 43] [1,2,5,6,7])))) (.seq (.reg (some [[],[],[1],[0,1,2],[0,1,2,3],[0,1,2,3,4],[0,1,2,3,4],[0,1,2,3,4,5,6],[0,1,2,3,4,5,6,7],[0,1,2,3,4],[0,1,2,3,4],[0,1,2,3,4,9,10],[0,1,2,3,4,9,10,11],[0,1,2,3,4,5,6,7,8,9,10,11,12],[0,1,2,3,4,5,6,7,8,9,10,11,12,13]]) [jm 44 7,jm 45 5,jq 46 (.len false 45),jb 47 .eql .i 44 46,jm 48 47,jv 49 48 (.mv 5),jv 50 48 (.mv 7),jv 51 48 (.ia 6 49 50),jv 52 48 (.ld true 6 51),jv 53 48 (.mv 1),jv 54 48 (.mv 6),jv 55 48 (.ia 6 53 54),jv 56 48 (.ld true 6 55),jv 57 48 (.eqs true [.i,.i,.i,.s,.i,.i] 52 56),jq 58 (.pick 48 kt 57)] [1,2,5,6,7,58]) (.cond 58 (.reg (some [[],[],[],[1,2],[0,1,2,3],[],[],[5,6],[5,6,7],[5,6,7,8],[0,1,2,3,4,5,6,7,8,9],[],[],[11,12],[0,1,2,3,4,5,6,7,8,9,10,11,12,13],[0,1,2,3,4,5,6,7,8,9,10,11,12,13,14]]) [jq 59 (.bsl 6 []),jm 60 5,jm 61 7,jq 62 (.sl 6 60 none (some 61)),jq 63 (.app 6 56 false 59 62),jm 64 1,jm 65 6,ja 66 6 64 65,jl 67 6 66,jq 68 (.bsl 6 [67]),jq 69 (.app 6 56 true 63 68),jm 70 5,jm 71 7,jq 72 (.sl 6 70 (some 71) none),jq 73 (.app 6 56 false 69 72),jm 5 73] [1,2,5,6]) .skip)))))) (.reg none [jm 17 6,jb 18 .add .i 17 (ki 1),jm 6 18] [1,2,5,6]))))) (js [jm 74 5,jm 4 74] [4] .ret)))
def rv17:List RV:=[.t 4]
def ci (g:G) (t:TE) (w1:List Scan) (z1:Scan):Nat→Int→Option Int
 |0,v2=>
  some v2
 |n2+1,v2=>
  gt w1 (g.nat v2) fun x2=>
  cl (dD g t (Scan.mk x2.Thing x2.At x2.Kind x2.Place (Trip.mk x2.Trip.Leg x2.Trip.Day)) (Scan.mk z1.Thing z1.At z1.Kind z1.Place (Trip.mk z1.Trip.Leg z1.Trip.Day))) fun x3=>
  br (g.lt x3 0)
  (
   ci g t w1 z1 n2 (g.wrap .i64 (g.add v2 1)))
  (
   some v2)
def bv (g:G) (t:TE) (a0:Network):List Scan→Int→List Scan→Option (List Scan)
 |[],v1,w1=>
  some w1
 |z1::ls1,v1,w1=>
  br (g.lt v1 200)
  (
   cl (gc g t a0 (Scan.mk z1.Thing z1.At z1.Kind z1.Place (Trip.mk z1.Trip.Leg z1.Trip.Day))) fun x1=>
   br x1
   (
    gd (((g.int (g.dlen (t.d_Scan w1)))≤9223372036854775807))<|
    cl (ci g t w1 z1 (aq 0 (g.int (g.dlen (t.d_Scan w1)))) 0) fun y1=>
    br (g.eq y1 (g.int (g.dlen (t.d_Scan w1))))
    (
     lP ([]) fun(l2:List Scan)=>
     gd (((0:Int)≤0∧0≤y1∧y1≤(((g.dlen (t.d_Scan w1)):Nat):Int)))<|
     gd (((g.nat 0)+(g.nsub (g.nat y1) (g.nat 0))≤w1.length))<|
     gd (((l2.length+(List.take (g.nsub (g.nat y1) (g.nat 0)) (List.drop (g.nat 0) w1)).length)*56≤70368744177664))<|
     lP (l2++(List.take (g.nsub (g.nat y1) (g.nat 0)) (List.drop (g.nat 0) w1))) fun(l3:List Scan)=>
     lP ([(Scan.mk z1.Thing z1.At z1.Kind z1.Place (Trip.mk z1.Trip.Leg z1.Trip.Day))]) fun(l4:List Scan)=>
     gd (((l3.length+l4.length)*56≤70368744177664))<|
     lP (l3++l4) fun(l5:List Scan)=>
     gd (((0:Int)≤y1∧y1≤(g.int (g.dlen (t.d_Scan w1)))∧(g.int (g.dlen (t.d_Scan w1)))≤(((g.dlen (t.d_Scan w1)):Nat):Int)))<|
     gd (((g.nat y1)+(g.nsub (g.nat (g.int (g.dlen (t.d_Scan w1)))) (g.nat y1))≤w1.length))<|
     gd (((l5.length+(List.take (g.nsub (g.nat (g.int (g.dlen (t.d_Scan w1)))) (g.nat y1)) (List.drop (g.nat y1) w1)).length)*56≤70368744177664))<|
     lP (l5++(List.take (g.nsub (g.nat (g.int (g.dlen (t.d_Scan w1)))) (g.nat y1)) (List.drop (g.nat y1) w1))) fun(l6:List Scan)=>
     bv g t a0 ls1 (g.wrap .i64 (g.add v1 1)) l6)
    (
     gd (((0:Int)≤y1∧y1<(((g.dlen (t.d_Scan w1)):Nat):Int)))<|
     gt w1 (g.nat y1) fun x4=>
     br (g.all [(g.eq x4.Thing z1.Thing),(g.eq x4.At z1.At),(g.eq x4.Kind z1.Kind),(g.seq x4.Place z1.Place),(g.eq x4.Trip.Leg z1.Trip.Leg),(g.eq x4.Trip.Day z1.Trip.Day)])
     (
      bv g t a0 ls1 (g.wrap .i64 (g.add v1 1)) w1)
     (
      lP ([]) fun(l7:List Scan)=>
      gd (((0:Int)≤0∧0≤y1∧y1≤(((g.dlen (t.d_Scan w1)):Nat):Int)))<|
      gd (((g.nat 0)+(g.nsub (g.nat y1) (g.nat 0))≤w1.length))<|
      gd (((l7.length+(List.take (g.nsub (g.nat y1) (g.nat 0)) (List.drop (g.nat 0) w1)).length)*56≤70368744177664))<|
      lP (l7++(List.take (g.nsub (g.nat y1) (g.nat 0)) (List.drop (g.nat 0) w1))) fun(l8:List Scan)=>
      lP ([(Scan.mk z1.Thing z1.At z1.Kind z1.Place (Trip.mk z1.Trip.Leg z1.Trip.Day))]) fun(l9:List Scan)=>
      gd (((l8.length+l9.length)*56≤70368744177664))<|
      lP (l8++l9) fun(l10:List Scan)=>
      gd (((0:Int)≤y1∧y1≤(g.int (g.dlen (t.d_Scan w1)))∧(g.int (g.dlen (t.d_Scan w1)))≤(((g.dlen (t.d_Scan w1)):Nat):Int)))<|
      gd (((g.nat y1)+(g.nsub (g.nat (g.int (g.dlen (t.d_Scan w1)))) (g.nat y1))≤w1.length))<|
      gd (((l10.length+(List.take (g.nsub (g.nat (g.int (g.dlen (t.d_Scan w1)))) (g.nat y1)) (List.drop (g.nat y1) w1)).length)*56≤70368744177664))<|
      lP (l10++(List.take (g.nsub (g.nat (g.int (g.dlen (t.d_Scan w1)))) (g.nat y1)) (List.drop (g.nat y1) w1))) fun(l11:List Scan)=>
      bv g t a0 ls1 (g.wrap .i64 (g.add v1 1)) l11)))
   (
    bv g t a0 ls1 (g.wrap .i64 (g.add v1 1)) w1))
  (
   some w1)
def iB (g:G) (t:TE) (a0:Network) (a1:List Scan):Option (List Scan):=
 lP ([]) fun(l1:List Scan)=>
 cl (bv g t a0 a1 0 l1) fun y2=>
 some y2
theorem ta {g:G} {t:TE} {a0:Network} {a1:List Scan} {r:List Scan} (hg:g=G.real) (ht:t=TE.real) (h:iB g t a0 a1=some r):Fn Tryz.prog 17 [.g (Network.rs t a0),.c (.s 6 (t.r_Scan a1))] (.c (.o 6 (t.d_Scan r))):=by
 obtain⟨X,hX⟩:=aE (.c (.o 6 (t.d_Scan r)):X);rw[←hX];refine au (rvs:=rv17) (j:=ir17) Tryz.func17 rfl (by kernel_rfl) (nb rfl) (by kernel_rfl) ae ?_;intro g2 F hg2 hF;obtain rfl:g2=g:=hg2.unique.trans hg.symm;clear hg2;obtain⟨wrap,lt,_,eq,_,_,_,_,_,_,_,_,int,add,_,_,_,seq,_,_,_,llen,_,_,dlen,_,_,_,_,_,_,_,_,all⟩:=g2;obtain⟨r_Leg,_,r_I64,_,r_Scan,d_Scan⟩:=t
 obtain⟨a0_Legs,a0_Off,a0_Change⟩:=a0;unfold iB at h;try dsimp only at h
 cbv;obtain⟨l1,hl1,h⟩:=ak h;try dsimp only at h
 refine ANew.mk (d_Scan l1) (dlen (d_Scan l1)) (by rw[←hl1];exact bX hg ht []) (by rw[←hl1];exact bn hg ht []) ?_;cbv;obtain⟨o1,ho1,h⟩:=ac h;try dsimp only at h
 try rw[hg] at ho1
 try rw[ht] at ho1
 refine ABL.mk {p:Nat×Int×List Scan//p.1≤a1.length∧p.2.1=((p.1:Nat):Int)∧bv G.real TE.real (Network.mk a0_Legs a0_Off a0_Change) (List.drop p.1 a1) p.2.1 p.2.2=some o1} (fun⟨⟨k1,v1,w1⟩,_⟩=>({sl:=[(1,.c (.r (.s 6 (r_Scan a1)))),(2,.c (.p 0 3 0 0)),(5,.c (.f 1 6 0 (dlen (d_Scan w1)))),(6,.c (.r (.v (.int .i64 v1))))],tab:=[(0,some (.foc 3 [] [.r (.s 6 (r_Leg a0_Legs)),.r (.s 1 (r_I64 a0_Off)),.r (.v (.int .i64 a0_Change))] [])),(1,some (.arr 6 (d_Scan w1)))]}:St)) 2 (fun p=>a1.length-p.1.1) ⟨(0,0,l1),Nat.zero_le _,rfl,ho1⟩ (List Scan) (fun y2=>({sl:=[(5,.c (.f 0 6 0 (dlen (d_Scan y2))))],tab:=[(0,some (.arr 6 (d_Scan y2)))]}:St)) 1 (fun y=>o1=y) ?_ ?_ ?_
 ·refine Wk.of [(0,some 0),(1,some 32)] rfl rfl ?_ ?_
  ·cbv;all_goals exact⟨⟨_,rfl,rfl⟩,⟨_,rfl,rfl⟩,⟨_,rfl,rfl⟩,⟨_,rfl,rfl⟩,trivial⟩
  cbv;all_goals exact⟨⟨_,rfl,_,rfl,rfl,rfl,rfl,trivial⟩,⟨_,rfl,rfl⟩,trivial⟩
 ·rintro⟨⟨k1,v1,w1⟩,hk1,hi1,h_1⟩ hq1;have hm1:=(hq1.1 1 _ _ rfl);try dsimp only at hk1 hi1 h_1
  clear hq1;cbv
  by_cases hc1_:k1<a1.length
  ·have hb1:lt v1 (llen (r_Scan a1))=true:=gi hg ht hi1 hc1_;have hs1:=jP hg ht hi1 hc1_ hm1;obtain⟨z1,hz1⟩:=aF hc1_;rw[aw hz1] at h_1;rw[bv] at h_1;obtain⟨z1_Thing,z1_At,z1_Kind,z1_Place,⟨z1_Trip_Leg,z1_Trip_Day⟩⟩:=z1;try rw[←hg] at h_1
   try rw[←ht] at h_1
   try dsimp only at h_1
   rw[hb1];cbv;iterate 2 try(rw[hb1];cbv)
   cases hb2:(lt v1 200)
   ·rw[aa hb2] at h_1;cbv;refine⟨w1,Wk.of [(0,some 1)] rfl rfl ?_ ?_,(Option.some.inj h_1).symm⟩
    ·cbv;all_goals exact⟨⟨_,rfl,rfl⟩,trivial⟩
    cbv;all_goals exact⟨⟨_,rfl,rfl⟩,trivial⟩
   rw[ab hb2] at h_1;cbv;refine AStep.mk (e7 hi1) ?_;cbv;refine AGet.mk _ (dU hg ht hi1 hz1) ?_;cbv;obtain⟨x1,hx1,h_1⟩:=ac h_1;try dsimp only at h_1
   refine ACall.mk _ _ rfl (hF _ _ _ (hC hg ht hx1)) (.inl rfl) (nb rfl) ?_;cbv
   cases hb3:x1
   ·rw[aa hb3] at h_1;cbv;try rw[hg] at h_1
    try rw[ht] at h_1
    refine⟨⟨(k1+1,(wrap .i64 (add v1 1)),w1),hc1_,hs1,h_1⟩,Wk.of [(0,some 0),(1,some 1)] rfl rfl ?_ ?_,aO hc1_⟩
    ·cbv;all_goals exact⟨⟨_,rfl,rfl⟩,⟨_,rfl,rfl⟩,⟨_,rfl,rfl⟩,⟨_,rfl,rfl⟩,trivial⟩
    cbv;all_goals exact⟨⟨_,rfl,_,rfl,rfl,rfl,rfl,trivial⟩,⟨_,rfl,rfl⟩,trivial⟩
   rw[ab hb3] at h_1;cbv;obtain⟨hB2,h_1⟩:=ah h_1;obtain⟨o2,ho2,h_1⟩:=ac h_1;try dsimp only at h_1
   try rw[hg] at ho2
   try rw[ht] at ho2
   refine ABL.mk {p:Nat×Int//p.1=aq p.2 (int (dlen (d_Scan w1)))∧0≤p.2∧ci G.real TE.real w1 (Scan.mk z1_Thing z1_At z1_Kind z1_Place (Trip.mk z1_Trip_Leg z1_Trip_Day)) p.1 p.2=some o2} (fun⟨⟨n2,v2⟩,_⟩=>({sl:=[(1,.c (.r (.s 6 (r_Scan a1)))),(2,.c (.p 0 3 0 0)),(5,.c (.f 1 6 0 (dlen (d_Scan w1)))),(6,.c (.r (.v (.int .i64 v1)))),(7,.c (.r (.v (.int .i64 v2))))],tab:=[(0,some (.foc 3 [] [.r (.s 6 (r_Leg a0_Legs)),.r (.s 1 (r_I64 a0_Off)),.r (.v (.int .i64 a0_Change))] [])),(1,some (.arr 6 (d_Scan w1)))]}:St)) 2 (fun p=>p.1.1) ⟨(aq 0 (int (dlen (d_Scan w1))),0),rfl,Int.le_refl _,ho2⟩ (Int) (fun y1=>({sl:=[(1,.c (.r (.s 6 (r_Scan a1)))),(2,.c (.p 0 3 0 0)),(5,.c (.f 1 6 0 (dlen (d_Scan w1)))),(6,.c (.r (.v (.int .i64 v1)))),(7,.c (.r (.v (.int .i64 y1))))],tab:=[(0,some (.foc 3 [] [.r (.s 6 (r_Leg a0_Legs)),.r (.s 1 (r_I64 a0_Off)),.r (.v (.int .i64 a0_Change))] [])),(1,some (.arr 6 (d_Scan w1)))]}:St)) 2 (fun y=>o2=y) ?_ ?_ ?_
   ·refine Wk.of [(0,some 0),(1,some 1)] rfl rfl ?_ ?_
    ·cbv;all_goals exact⟨⟨_,rfl,rfl⟩,⟨_,rfl,rfl⟩,⟨_,rfl,rfl⟩,⟨_,rfl,rfl⟩,⟨_,rfl,rfl⟩,trivial⟩
    cbv;all_goals exact⟨⟨_,rfl,_,rfl,rfl,rfl,rfl,trivial⟩,⟨_,rfl,rfl⟩,trivial⟩
   ·rintro⟨⟨n2,v2⟩,hn2,hi2,h_2⟩ hq2;try dsimp only at hn2 hi2 h_2
    clear hq2;cbv;rcases n2 with _|n2
    ·have hb4:lt v2 (int (dlen (d_Scan w1)))=false:=be hg hn2;rw[ci] at h_2;try rw[←hg] at h_2
     try rw[←ht] at h_2
     try dsimp only at h_2
     rw[hb4];cbv;iterate 10 try(rw[hb4];cbv)
     refine⟨v2,Wk.of [(0,some 0),(1,some 1)] rfl rfl ?_ ?_,(Option.some.inj h_2).symm⟩
     ·cbv;all_goals exact⟨⟨_,rfl,rfl⟩,⟨_,rfl,rfl⟩,⟨_,rfl,rfl⟩,⟨_,rfl,rfl⟩,⟨_,rfl,rfl⟩,trivial⟩
     cbv;all_goals exact⟨⟨_,rfl,_,rfl,rfl,rfl,rfl,trivial⟩,⟨_,rfl,rfl⟩,trivial⟩
    have hb4:lt v2 (int (dlen (d_Scan w1)))=true:=bF hg hn2;have hl2:=dM hn2;have hs2:=cF hg hn2 hi2 hB2 (by decide);rw[ci] at h_2;try rw[←hg] at h_2
    try rw[←ht] at h_2
    try dsimp only at h_2
    rw[hb4];cbv;iterate 2 try(rw[hb4];cbv)
    refine AStep.mk (dB hg hi2 hl2) ?_;cbv;try(rw[hb4];cbv)
    obtain⟨x2,hx2,h_2⟩:=aB h_2;obtain⟨x2_Thing,x2_At,x2_Kind,x2_Place,⟨x2_Trip_Leg,x2_Trip_Day⟩⟩:=x2;try dsimp only at h_2
    refine AGet.mk _ (aG hg ht hx2) ?_;cbv;iterate 3 try(rw[hb4];cbv)
    refine AStep.mk (e7 hi1) ?_;cbv;refine AGet.mk _ (dU hg ht hi1 hz1) ?_;cbv;iterate 2 try(rw[hb4];cbv)
    obtain⟨x3,hx3,h_2⟩:=ac h_2;try dsimp only at h_2
    refine ACall.mk _ _ rfl (hF _ _ _ (kC hg ht hx3)) (.inl rfl) (nb rfl) ?_;cbv;iterate 2 try(rw[hb4];cbv)
    cases hb5:(lt x3 0)
    ·rw[aa hb5] at h_2;cbv;refine⟨v2,Wk.of [(0,some 0),(1,some 1)] rfl rfl ?_ ?_,(Option.some.inj h_2).symm⟩
     ·cbv;all_goals exact⟨⟨_,rfl,rfl⟩,⟨_,rfl,rfl⟩,⟨_,rfl,rfl⟩,⟨_,rfl,rfl⟩,⟨_,rfl,rfl⟩,trivial⟩
     cbv;all_goals exact⟨⟨_,rfl,_,rfl,rfl,rfl,rfl,trivial⟩,⟨_,rfl,rfl⟩,trivial⟩
    rw[ab hb5] at h_2;cbv;try rw[hg] at h_2
    try rw[ht] at h_2
    refine⟨⟨(n2,(wrap .i64 (add v2 1))),hs2.1,hs2.2,h_2⟩,Wk.of [(0,some 0),(1,some 1)] rfl rfl ?_ ?_,Nat.lt_succ_self _⟩
    ·cbv;all_goals exact⟨⟨_,rfl,rfl⟩,⟨_,rfl,rfl⟩,⟨_,rfl,rfl⟩,⟨_,rfl,rfl⟩,⟨_,rfl,rfl⟩,trivial⟩
    cbv;all_goals exact⟨⟨_,rfl,_,rfl,rfl,rfl,rfl,trivial⟩,⟨_,rfl,rfl⟩,trivial⟩
   rintro y1 hy2;replace hy2:=hy2.symm;subst hy2;try dsimp only[lr,lrL,lrp,aP] at h_1
   cbv
   cases hb6:(eq y1 (int (dlen (d_Scan w1))))
   rotate_left
   ·rw[ab hb6] at h_1;cbv;iterate 9 try(rw[hb6];cbv)
    obtain⟨l2,hl2,h_1⟩:=ak h_1;try dsimp only at h_1
    refine ANew.mk (d_Scan l2) (dlen (d_Scan l2)) (by rw[←hl2];exact bX hg ht []) (by rw[←hl2];exact bn hg ht []) ?_;cbv;obtain⟨hc1,h_1⟩:=ah h_1;refine AStep.mk hc1 ?_;cbv;obtain⟨hc6,h_1⟩:=ah h_1;obtain⟨hc7,h_1⟩:=ah h_1;refine AStep.mk ⟨(i6 hg ht hc6),(bq hg ht (aj hg ht _) (dR hg ht _ _ _) hc7)⟩ ?_;cbv;obtain⟨l3,hl3,h_1⟩:=ak h_1;try dsimp only at h_1
    refine ANew.mk (d_Scan l3) (dlen (d_Scan l3)) (by rw[←hl3];exact dF hg ht (aj hg ht _) (dR hg ht _ _ _)) (by rw[←hl3];exact cG hg ht (aj hg ht _) (dR hg ht _ _ _)) ?_;cbv;refine AStep.mk (e7 hi1) ?_;cbv;refine AGet.mk _ (dU hg ht hi1 hz1) ?_;cbv;obtain⟨l4,hl4,h_1⟩:=ak h_1;try dsimp only at h_1
    refine ANew.mk (d_Scan l4) (dlen (d_Scan l4)) (by rw[←hl4];exact bX hg ht [(Scan.mk z1_Thing z1_At z1_Kind z1_Place (Trip.mk z1_Trip_Leg z1_Trip_Day))]) (by rw[←hl4];exact bn hg ht [(Scan.mk z1_Thing z1_At z1_Kind z1_Place (Trip.mk z1_Trip_Leg z1_Trip_Day))]) ?_;cbv;obtain⟨hc5,h_1⟩:=ah h_1;refine AStep.mk ⟨⟨rfl,(aj hg ht _)⟩,(bq hg ht (aj hg ht _) rfl hc5)⟩ ?_;cbv;obtain⟨l5,hl5,h_1⟩:=ak h_1;try dsimp only at h_1
    refine ANew.mk (d_Scan l5) (dlen (d_Scan l5)) (by rw[←hl5];exact dF hg ht (aj hg ht _) rfl) (by rw[←hl5];exact cG hg ht (aj hg ht _) rfl) ?_;cbv;obtain⟨hc2,h_1⟩:=ah h_1;refine AStep.mk hc2 ?_;cbv;obtain⟨hc3,h_1⟩:=ah h_1;obtain⟨hc4,h_1⟩:=ah h_1;refine AStep.mk ⟨(i6 hg ht hc3),(bq hg ht (aj hg ht _) (dR hg ht _ _ _) hc4)⟩ ?_;cbv;obtain⟨l6,hl6,h_1⟩:=ak h_1;try dsimp only at h_1
    refine ANew.mk (d_Scan l6) (dlen (d_Scan l6)) (by rw[←hl6];exact dF hg ht (aj hg ht _) (dR hg ht _ _ _)) (by rw[←hl6];exact cG hg ht (aj hg ht _) (dR hg ht _ _ _)) ?_;cbv;try rw[hg] at h_1
    try rw[ht] at h_1
    refine⟨⟨(k1+1,(wrap .i64 (add v1 1)),l6),hc1_,hs1,h_1⟩,Wk.of [(0,some 0),(1,some 466)] rfl rfl ?_ ?_,aO hc1_⟩
    ·cbv;all_goals exact⟨⟨_,rfl,rfl⟩,⟨_,rfl,rfl⟩,⟨_,rfl,rfl⟩,⟨_,rfl,rfl⟩,trivial⟩
    cbv;all_goals exact⟨⟨_,rfl,_,rfl,rfl,rfl,rfl,trivial⟩,⟨_,rfl,rfl⟩,trivial⟩
   rw[aa hb6] at h_1;cbv;iterate 2 try(rw[hb6];cbv)
   obtain⟨hc8,h_1⟩:=ah h_1;refine AStep.mk hc8 ?_;cbv;try(rw[hb6];cbv)
   obtain⟨x4,hx4,h_1⟩:=aB h_1;obtain⟨x4_Thing,x4_At,x4_Kind,x4_Place,⟨x4_Trip_Leg,x4_Trip_Day⟩⟩:=x4;try dsimp only at h_1
   refine AGet.mk _ (aG hg ht hx4) ?_;cbv;iterate 3 try(rw[hb6];cbv)
   refine AStep.mk (e7 hi1) ?_;cbv;refine AGet.mk _ (dU hg ht hi1 hz1) ?_;cbv;iterate 3 try(rw[hb6];cbv)
   cases hb7:(all [(eq x4_Thing z1_Thing),(eq x4_At z1_At),(eq x4_Kind z1_Kind),(seq x4_Place z1_Place),(eq x4_Trip_Leg z1_Trip_Leg),(eq x4_Trip_Day z1_Trip_Day)])
   rotate_left
   ·rw[ab hb7] at h_1;cbv;try rw[hg] at h_1
    try rw[ht] at h_1
    refine⟨⟨(k1+1,(wrap .i64 (add v1 1)),w1),hc1_,hs1,h_1⟩,Wk.of [(0,some 0),(1,some 1)] rfl rfl ?_ ?_,aO hc1_⟩
    ·cbv;all_goals exact⟨⟨_,rfl,rfl⟩,⟨_,rfl,rfl⟩,⟨_,rfl,rfl⟩,⟨_,rfl,rfl⟩,trivial⟩
    cbv;all_goals exact⟨⟨_,rfl,_,rfl,rfl,rfl,rfl,trivial⟩,⟨_,rfl,rfl⟩,trivial⟩
   rw[aa hb7] at h_1;cbv;obtain⟨l7,hl7,h_1⟩:=ak h_1;try dsimp only at h_1
   refine ANew.mk (d_Scan l7) (dlen (d_Scan l7)) (by rw[←hl7];exact bX hg ht []) (by rw[←hl7];exact bn hg ht []) ?_;cbv;obtain⟨hc9,h_1⟩:=ah h_1;refine AStep.mk hc9 ?_;cbv;obtain⟨hc14,h_1⟩:=ah h_1;obtain⟨hc15,h_1⟩:=ah h_1;refine AStep.mk ⟨(i6 hg ht hc14),(bq hg ht (aj hg ht _) (dR hg ht _ _ _) hc15)⟩ ?_;cbv;obtain⟨l8,hl8,h_1⟩:=ak h_1;try dsimp only at h_1
   refine ANew.mk (d_Scan l8) (dlen (d_Scan l8)) (by rw[←hl8];exact dF hg ht (aj hg ht _) (dR hg ht _ _ _)) (by rw[←hl8];exact cG hg ht (aj hg ht _) (dR hg ht _ _ _)) ?_;cbv;refine AStep.mk (e7 hi1) ?_;cbv;refine AGet.mk _ (dU hg ht hi1 hz1) ?_;cbv;obtain⟨l9,hl9,h_1⟩:=ak h_1;try dsimp only at h_1
   refine ANew.mk (d_Scan l9) (dlen (d_Scan l9)) (by rw[←hl9];exact bX hg ht [(Scan.mk z1_Thing z1_At z1_Kind z1_Place (Trip.mk z1_Trip_Leg z1_Trip_Day))]) (by rw[←hl9];exact bn hg ht [(Scan.mk z1_Thing z1_At z1_Kind z1_Place (Trip.mk z1_Trip_Leg z1_Trip_Day))]) ?_;cbv;obtain⟨hc13,h_1⟩:=ah h_1;refine AStep.mk ⟨⟨rfl,(aj hg ht _)⟩,(bq hg ht (aj hg ht _) rfl hc13)⟩ ?_;cbv;obtain⟨l10,hl10,h_1⟩:=ak h_1;try dsimp only at h_1
   refine ANew.mk (d_Scan l10) (dlen (d_Scan l10)) (by rw[←hl10];exact dF hg ht (aj hg ht _) rfl) (by rw[←hl10];exact cG hg ht (aj hg ht _) rfl) ?_;cbv;obtain⟨hc10,h_1⟩:=ah h_1;refine AStep.mk hc10 ?_;cbv;obtain⟨hc11,h_1⟩:=ah h_1;obtain⟨hc12,h_1⟩:=ah h_1;refine AStep.mk ⟨(i6 hg ht hc11),(bq hg ht (aj hg ht _) (dR hg ht _ _ _) hc12)⟩ ?_;cbv;obtain⟨l11,hl11,h_1⟩:=ak h_1;try dsimp only at h_1
   refine ANew.mk (d_Scan l11) (dlen (d_Scan l11)) (by rw[←hl11];exact dF hg ht (aj hg ht _) (dR hg ht _ _ _)) (by rw[←hl11];exact cG hg ht (aj hg ht _) (dR hg ht _ _ _)) ?_;cbv;try rw[hg] at h_1
   try rw[ht] at h_1
   refine⟨⟨(k1+1,(wrap .i64 (add v1 1)),l11),hc1_,hs1,h_1⟩,Wk.of [(0,some 0),(1,some 466)] rfl rfl ?_ ?_,aO hc1_⟩
   ·cbv;all_goals exact⟨⟨_,rfl,rfl⟩,⟨_,rfl,rfl⟩,⟨_,rfl,rfl⟩,⟨_,rfl,rfl⟩,trivial⟩
   cbv;all_goals exact⟨⟨_,rfl,_,rfl,rfl,rfl,rfl,trivial⟩,⟨_,rfl,rfl⟩,trivial⟩
  have hb1:lt v1 (llen (r_Scan a1))=false:=fM hg ht hi1 hc1_;rw[List.drop_of_length_le (Nat.le_of_not_lt hc1_)] at h_1;rw[bv] at h_1;try rw[←hg] at h_1
  try rw[←ht] at h_1
  try dsimp only at h_1
  rw[hb1];cbv;iterate 2 try(rw[hb1];cbv)
  refine⟨w1,Wk.of [(0,some 1)] rfl rfl ?_ ?_,(Option.some.inj h_1).symm⟩
  ·cbv;all_goals exact⟨⟨_,rfl,rfl⟩,trivial⟩
  cbv;all_goals exact⟨⟨_,rfl,rfl⟩,trivial⟩
 rintro y2 hy1;replace hy1:=hy1.symm;subst hy1;try dsimp only[lr,lrL,lrp,aP] at h
 cbv;obtain rfl:=Option.some.inj h;exact ARet.mk ⟨rfl,(aj hg ht _)⟩ hX.symm
def ir26:J:=js [jq 3 (.box 0),jq 6 (.mv (.k (.c (.n 6))))] [1,2,3] (js [jq 10 (.bsl 6 []),jm 7 10] [1,2,3,7] (js [jl 11 3 3,jm 12 1,jc 13 17 [11,12],jm 8 13] [2,7,8] (.seq (js [jm 9 (ki 0)] [2,7,8,9] (.bl 0 (.seq (js [jm 14 9,jm 15 8,jq 16 (.len false 15),jb 17 .lss .i 14 16] [2,7,8,9,17] (.cond 17 .skip (.exit 0))) (.seq (.block 1 (js [jm 20 8,jm 21 9,ja 22 6 20 21,jf 23 0 22,jk 24 23,jm 25 2,jb 26 .eql .i 24 25] [2,7,8,9,26] (.cond 26 (.reg none [jm 27 7,jm 28 8,jm 29 9,ja 30 6 28 29,jl 31 6 30,jq 32 (.bsl 6 [31]),jq 33 (.app 6 56 true 27 32),jm 7 33] [2,7,8,9]) .skip))) (.reg none [jm 18 9,jb 19 .add .i 18 (ki 1),jm 9 19] [2,7,8,9]))))) (js [jm 34 7,jm 6 34] [6] .ret))))
def rv26:List RV:=[.t 6]
def df (g:G) (t:TE) (a2:Int) (x1:List Scan):Nat→Int→List Scan→Option (List Scan)
 |0,v1,w1=>
  some w1
 |n1+1,v1,w1=>
  gt x1 (g.nat v1) fun x2=>
  br (g.eq x2.Thing a2)
  (
   lP ([(Scan.mk x2.Thing x2.At x2.Kind x2.Place (Trip.mk x2.Trip.Leg x2.Trip.Day))]) fun(l2:List Scan)=>
   gd (((w1.length+l2.length)*56≤70368744177664))<|
   lP (w1++l2) fun(l3:List Scan)=>
   df g t a2 x1 n1 (g.wrap .i64 (g.add v1 1)) l3)
  (
   df g t a2 x1 n1 (g.wrap .i64 (g.add v1 1)) w1)
def kI (g:G) (t:TE) (a0:Network) (a1:List Scan) (a2:Int):Option (List Scan):=
 lP ([]) fun(l1:List Scan)=>
 cl (iB g t a0 a1) fun x1=>
 gd (((g.int (g.dlen (t.d_Scan x1)))≤9223372036854775807))<|
 cl (df g t a2 x1 (aq 0 (g.int (g.dlen (t.d_Scan x1)))) 0 l1) fun y1=>
 some y1
theorem v9 {g:G} {t:TE} {a0:Network} {a1:List Scan} {a2:Int} {r:List Scan} (hg:g=G.real) (ht:t=TE.real) (h:kI g t a0 a1 a2=some r):Fn Tryz.prog 26 [.g (Network.rs t a0),.c (.s 6 (t.r_Scan a1)),.c (.v (.int .i64 a2))] (.c (.o 6 (t.d_Scan r))):=by
 obtain⟨X,hX⟩:=aE (.c (.o 6 (t.d_Scan r)):X);rw[←hX];refine au (rvs:=rv26) (j:=ir26) Tryz.func26 rfl (by kernel_rfl) (nb rfl) (by kernel_rfl) ae ?_;intro g2 F hg2 hF;obtain rfl:g2=g:=hg2.unique.trans hg.symm;clear hg2;obtain⟨wrap,lt,_,eq,_,_,_,_,_,_,_,_,int,add,_,_,_,_,_,_,_,_,_,_,dlen⟩:=g2;obtain⟨_,_,_,_,_,d_Scan⟩:=t
 obtain⟨a0_Legs,a0_Off,a0_Change⟩:=a0;unfold kI at h;try dsimp only at h
 cbv;obtain⟨l1,hl1,h⟩:=ak h;try dsimp only at h
 refine ANew.mk (d_Scan l1) (dlen (d_Scan l1)) (by rw[←hl1];exact bX hg ht []) (by rw[←hl1];exact bn hg ht []) ?_;cbv;obtain⟨x1,hx1,h⟩:=ac h;try dsimp only at h
 refine ACall.mk _ _ rfl (hF _ _ _ (ta hg ht hx1)) (.inl rfl) (nb rfl) ?_;cbv;obtain⟨hB1,h⟩:=ah h;obtain⟨o1,ho1,h⟩:=ac h;try dsimp only at h
 try rw[hg] at ho1
 try rw[ht] at ho1
 refine ABL.mk {p:Nat×Int×List Scan//p.1=aq p.2.1 (int (dlen (d_Scan x1)))∧0≤p.2.1∧df G.real TE.real a2 x1 p.1 p.2.1 p.2.2=some o1} (fun⟨⟨n1,v1,w1⟩,_⟩=>({sl:=[(2,.c (.r (.v (.int .i64 a2)))),(7,.c (.f 0 6 0 (dlen (d_Scan w1)))),(8,.c (.f 1 6 0 (dlen (d_Scan x1)))),(9,.c (.r (.v (.int .i64 v1))))],tab:=[(0,some (.arr 6 (d_Scan w1))),(1,some (.arr 6 (d_Scan x1)))]}:St)) 2 (fun p=>p.1.1) ⟨(aq 0 (int (dlen (d_Scan x1))),0,l1),rfl,Int.le_refl _,ho1⟩ (List Scan) (fun y1=>({sl:=[(7,.c (.f 0 6 0 (dlen (d_Scan y1))))],tab:=[(0,some (.arr 6 (d_Scan y1)))]}:St)) 1 (fun y=>o1=y) ?_ ?_ ?_
 ·refine Wk.of [(0,some 32),(1,some 96)] rfl rfl ?_ ?_
  ·cbv;all_goals exact⟨⟨_,rfl,rfl⟩,⟨_,rfl,rfl⟩,⟨_,rfl,rfl⟩,⟨_,rfl,rfl⟩,trivial⟩
  cbv;all_goals exact⟨⟨_,rfl,rfl⟩,⟨_,rfl,rfl⟩,trivial⟩
 ·rintro⟨⟨n1,v1,w1⟩,hn1,hi1,h_1⟩ hq1;try dsimp only at hn1 hi1 h_1
  clear hq1;cbv;rcases n1 with _|n1
  ·have hb1:lt v1 (int (dlen (d_Scan x1)))=false:=be hg hn1;rw[df] at h_1;try rw[←hg] at h_1
   try rw[←ht] at h_1
   try dsimp only at h_1
   rw[hb1];cbv;refine⟨w1,Wk.of [(0,some 0)] rfl rfl ?_ ?_,(Option.some.inj h_1).symm⟩
   ·cbv;all_goals exact⟨⟨_,rfl,rfl⟩,trivial⟩
   cbv;all_goals exact⟨⟨_,rfl,rfl⟩,trivial⟩
  have hb1:lt v1 (int (dlen (d_Scan x1)))=true:=bF hg hn1;have hl1:=dM hn1;have hs1:=cF hg hn1 hi1 hB1 (by decide);rw[df] at h_1;try rw[←hg] at h_1
  try rw[←ht] at h_1
  try dsimp only at h_1
  rw[hb1];cbv;refine AStep.mk (dB hg hi1 hl1) ?_;cbv;obtain⟨x2,hx2,h_1⟩:=aB h_1;obtain⟨x2_Thing,x2_At,x2_Kind,x2_Place,⟨x2_Trip_Leg,x2_Trip_Day⟩⟩:=x2;try dsimp only at h_1
  refine AGet.mk _ (aG hg ht hx2) ?_;cbv
  cases hb2:(eq x2_Thing a2)
  ·rw[aa hb2] at h_1;cbv;try rw[hg] at h_1
   try rw[ht] at h_1
   refine⟨⟨(n1,(wrap .i64 (add v1 1)),w1),hs1.1,hs1.2,h_1⟩,Wk.of [(0,some 0),(1,some 1)] rfl rfl ?_ ?_,Nat.lt_succ_self _⟩
   ·cbv;all_goals exact⟨⟨_,rfl,rfl⟩,⟨_,rfl,rfl⟩,⟨_,rfl,rfl⟩,⟨_,rfl,rfl⟩,trivial⟩
   cbv;all_goals exact⟨⟨_,rfl,rfl⟩,⟨_,rfl,rfl⟩,trivial⟩
  rw[ab hb2] at h_1;cbv;refine AStep.mk (dB hg hi1 hl1) ?_;cbv;refine AGet.mk _ (aG hg ht hx2) ?_;cbv;obtain⟨l2,hl2,h_1⟩:=ak h_1;try dsimp only at h_1
  refine ANew.mk (d_Scan l2) (dlen (d_Scan l2)) (by rw[←hl2];exact bX hg ht [(Scan.mk x2_Thing x2_At x2_Kind x2_Place (Trip.mk x2_Trip_Leg x2_Trip_Day))]) (by rw[←hl2];exact bn hg ht [(Scan.mk x2_Thing x2_At x2_Kind x2_Place (Trip.mk x2_Trip_Leg x2_Trip_Day))]) ?_;cbv;obtain⟨hc1,h_1⟩:=ah h_1;refine AStep.mk ⟨⟨rfl,(aj hg ht _)⟩,(bq hg ht (aj hg ht _) rfl hc1)⟩ ?_;cbv;obtain⟨l3,hl3,h_1⟩:=ak h_1;try dsimp only at h_1
  refine ANew.mk (d_Scan l3) (dlen (d_Scan l3)) (by rw[←hl3];exact dF hg ht (aj hg ht _) rfl) (by rw[←hl3];exact cG hg ht (aj hg ht _) rfl) ?_;cbv;try rw[hg] at h_1
  try rw[ht] at h_1
  refine⟨⟨(n1,(wrap .i64 (add v1 1)),l3),hs1.1,hs1.2,h_1⟩,Wk.of [(0,some 274),(1,some 1)] rfl rfl ?_ ?_,Nat.lt_succ_self _⟩
  ·cbv;all_goals exact⟨⟨_,rfl,rfl⟩,⟨_,rfl,rfl⟩,⟨_,rfl,rfl⟩,⟨_,rfl,rfl⟩,trivial⟩
  cbv;all_goals exact⟨⟨_,rfl,rfl⟩,⟨_,rfl,rfl⟩,trivial⟩
 rintro y1 hy1;replace hy1:=hy1.symm;subst hy1;try dsimp only[lr,lrL,lrp,aP] at h
 cbv;obtain rfl:=Option.some.inj h;exact ARet.mk ⟨rfl,(aj hg ht _)⟩ hX.symm
def HI:J:=js [jm 4 (ki 0)] [0,1] (.seq (js [jm 5 1,jm 6 0,jb 7 .gtr .i 5 6] [0,1,7] (.cond 7 (js [jm 8 1,jm 4 8] [4] .ret) .skip)) (js [jm 9 0,jm 4 9] [4] .ret))
def Id:List RV:=[.t 4]
def wN (g:G) (t:TE) (a0:Int) (a1:Int):Int:=
 br (g.lt a0 a1)
 (
  a1)
 (
  a0)
theorem Ek {g:G} {t:TE} {a0:Int} {a1:Int} {r:Int} (hg:g=G.real) (ht:t=TE.real) (h:wN g t a0 a1=r):Fn Tryz.prog 156 [.c (.v (.int .i64 a0)),.c (.v (.int .i64 a1))] (.c (.r (.v (.int .i64 r)))):=by
 obtain⟨X,hX⟩:=aE (.c (.r (.v (.int .i64 r))):X);rw[←hX];refine au (rvs:=Id) (j:=HI) Tryz.func156 rfl (by kernel_rfl) (nb rfl) (by kernel_rfl) ae ?_;intro g2 F hg2 hF;obtain rfl:g2=g:=hg2.unique.trans hg.symm;clear hg2;obtain⟨_,lt⟩:=g2;obtain⟨_⟩:=t
 unfold wN at h;try dsimp only at h
 cbv
 cases hb1:(lt a0 a1)
 rotate_left
 ·rw[ab hb1] at h;cbv;subst h;exact ARet.mk trivial hX.symm
 rw[aa hb1] at h;cbv;subst h;exact ARet.mk trivial hX.symm
def Hj:J:=js [jq 6 (.mv (.k (.c (.n 1))))] [0,1,2] (js [jq 9 (.bsl 1 []),jm 7 9] [0,1,2,7] (.seq (js [jm 8 (ki 0)] [0,1,2,7,8] (.bl 0 (.seq (js [jm 10 8,jm 11 0,jq 12 (.len false 11),jb 13 .lss .i 10 12] [0,1,2,7,8,13] (.cond 13 .skip (.exit 0))) (.seq (.block 1 (js [jm 16 8,jm 17 1,jb 18 .eql .i 16 17] [0,1,2,7,8,18] (.cond 18 (.reg none [jm 19 7,jm 20 2,jc 21 156 [20,(ki 0)],jq 22 (.bsl 1 [21]),jq 23 (.app 1 8 true 19 22),jm 7 23] [0,1,2,7,8]) (.reg none [jm 24 7,jq 25 (.bsl 1 [(.k (V.i (-1)))]),jq 26 (.app 1 8 true 24 25),jm 7 26] [0,1,2,7,8])))) (.reg none [jm 14 8,jb 15 .add .i 14 (ki 1),jm 8 15] [0,1,2,7,8]))))) (js [jm 27 7,jm 6 27] [6] .ret)))
def G9:List RV:=[.t 6]
def dd (g:G) (t:TE) (a1:Int) (a2:Int):List ByteArray→Int→List Int→Option (List Int)
 |[],v1,w1=>
  some w1
 |z1::ls1,v1,w1=>
  br (g.eq v1 a1)
  (
   lP (wN g t a2 0) fun x1=>
   lP ([x1]) fun(l2:List Int)=>
   gd (((w1.length+l2.length)*8≤70368744177664))<|
   lP (w1++l2) fun(l3:List Int)=>
   dd g t a1 a2 ls1 (g.wrap .i64 (g.add v1 1)) l3)
  (
   lP ([(-1)]) fun(l4:List Int)=>
   gd (((w1.length+l4.length)*8≤70368744177664))<|
   lP (w1++l4) fun(l5:List Int)=>
   dd g t a1 a2 ls1 (g.wrap .i64 (g.add v1 1)) l5)
def kW (g:G) (t:TE) (a0:List ByteArray) (a1:Int) (a2:Int):Option (List Int):=
 lP ([]) fun(l1:List Int)=>
 cl (dd g t a1 a2 a0 0 l1) fun y1=>
 some y1
theorem xH {g:G} {t:TE} {a0:List ByteArray} {a1:Int} {a2:Int} {r:List Int} (hg:g=G.real) (ht:t=TE.real) (h:kW g t a0 a1 a2=some r):Fn Tryz.prog 148 [.c (.s 1 (t.r_S a0)),.c (.v (.int .i64 a1)),.c (.v (.int .i64 a2))] (.c (.o 1 (t.d_I64 r))):=by
 obtain⟨X,hX⟩:=aE (.c (.o 1 (t.d_I64 r)):X);rw[←hX];refine au (rvs:=G9) (j:=Hj) Tryz.func148 rfl (by kernel_rfl) (nb rfl) (by kernel_rfl) ae ?_;intro g2 F hg2 hF;obtain rfl:g2=g:=hg2.unique.trans hg.symm;clear hg2;obtain⟨wrap,lt,_,eq,_,_,_,_,_,_,_,_,_,add,_,_,_,_,_,_,_,llen,_,_,dlen⟩:=g2;obtain⟨_,_,_,d_I64,_,_,r_S⟩:=t
 unfold kW at h;try dsimp only at h
 cbv;obtain⟨l1,hl1,h⟩:=ak h;try dsimp only at h
 refine ANew.mk (d_I64 l1) (dlen (d_I64 l1)) (by rw[←hl1];exact fo hg ht []) (by rw[←hl1];exact dX hg ht []) ?_;cbv;obtain⟨o1,ho1,h⟩:=ac h;try dsimp only at h
 try rw[hg] at ho1
 try rw[ht] at ho1
 refine ABL.mk {p:Nat×Int×List Int//p.1≤a0.length∧p.2.1=((p.1:Nat):Int)∧dd G.real TE.real a1 a2 (List.drop p.1 a0) p.2.1 p.2.2=some o1} (fun⟨⟨k1,v1,w1⟩,_⟩=>({sl:=[(0,.c (.r (.s 1 (r_S a0)))),(1,.c (.r (.v (.int .i64 a1)))),(2,.c (.r (.v (.int .i64 a2)))),(7,.c (.f 0 1 0 (dlen (d_I64 w1)))),(8,.c (.r (.v (.int .i64 v1))))],tab:=[(0,some (.arr 1 (d_I64 w1)))]}:St)) 1 (fun p=>a0.length-p.1.1) ⟨(0,0,l1),Nat.zero_le _,rfl,ho1⟩ (List Int) (fun y1=>({sl:=[(7,.c (.f 0 1 0 (dlen (d_I64 y1))))],tab:=[(0,some (.arr 1 (d_I64 y1)))]}:St)) 1 (fun y=>o1=y) ?_ ?_ ?_
 ·refine Wk.of [(0,some 16)] rfl rfl ?_ ?_
  ·cbv;all_goals exact⟨⟨_,rfl,rfl⟩,⟨_,rfl,rfl⟩,⟨_,rfl,rfl⟩,⟨_,rfl,rfl⟩,⟨_,rfl,rfl⟩,trivial⟩
  cbv;all_goals exact⟨⟨_,rfl,rfl⟩,trivial⟩
 ·rintro⟨⟨k1,v1,w1⟩,hk1,hi1,h_1⟩ hq1;have hm1:=(hq1.1 0 _ _ rfl);try dsimp only at hk1 hi1 h_1
  clear hq1;cbv
  by_cases hc1_:k1<a0.length
  ·have hb1:lt v1 (llen (r_S a0))=true:=jS hg ht hi1 hc1_;have hs1:=oO hg ht hi1 hc1_ hm1;obtain⟨z1,hz1⟩:=aF hc1_;rw[aw hz1] at h_1;rw[dd] at h_1;try rw[←hg] at h_1
   try rw[←ht] at h_1
   try dsimp only at h_1
   rw[hb1];cbv
   cases hb2:(eq v1 a1)
   ·rw[aa hb2] at h_1;cbv;obtain⟨l4,hl4,h_1⟩:=ak h_1;try dsimp only at h_1
    refine ANew.mk (d_I64 l4) (dlen (d_I64 l4)) (by rw[←hl4];exact fo hg ht [(-1)]) (by rw[←hl4];exact dX hg ht [(-1)]) ?_;cbv;obtain⟨hc2,h_1⟩:=ah h_1;refine AStep.mk ⟨⟨rfl,(ao hg ht _)⟩,(jD hg ht (ao hg ht _) rfl hc2)⟩ ?_;cbv;obtain⟨l5,hl5,h_1⟩:=ak h_1;try dsimp only at h_1
    refine ANew.mk (d_I64 l5) (dlen (d_I64 l5)) (by rw[←hl5];exact oR hg ht (ao hg ht _) rfl) (by rw[←hl5];exact mE hg ht (ao hg ht _) rfl) ?_;cbv;try rw[hg] at h_1
    try rw[ht] at h_1
    refine⟨⟨(k1+1,(wrap .i64 (add v1 1)),l5),hc1_,hs1,h_1⟩,Wk.of [(0,some 145)] rfl rfl ?_ ?_,aO hc1_⟩
    ·cbv;all_goals exact⟨⟨_,rfl,rfl⟩,⟨_,rfl,rfl⟩,⟨_,rfl,rfl⟩,⟨_,rfl,rfl⟩,⟨_,rfl,rfl⟩,trivial⟩
    cbv;all_goals exact⟨⟨_,rfl,rfl⟩,trivial⟩
   rw[ab hb2] at h_1;cbv;obtain⟨x1,hx1,h_1⟩:=ak h_1;try dsimp only at h_1
   refine ACall.mk _ _ rfl (hF _ _ _ (Ek hg ht hx1)) (.inl rfl) (nb rfl) ?_;cbv;obtain⟨l2,hl2,h_1⟩:=ak h_1;try dsimp only at h_1
   refine ANew.mk (d_I64 l2) (dlen (d_I64 l2)) (by rw[←hl2];exact fo hg ht [x1]) (by rw[←hl2];exact dX hg ht [x1]) ?_;cbv;obtain⟨hc1,h_1⟩:=ah h_1;refine AStep.mk ⟨⟨rfl,(ao hg ht _)⟩,(jD hg ht (ao hg ht _) rfl hc1)⟩ ?_;cbv;obtain⟨l3,hl3,h_1⟩:=ak h_1;try dsimp only at h_1
   refine ANew.mk (d_I64 l3) (dlen (d_I64 l3)) (by rw[←hl3];exact oR hg ht (ao hg ht _) rfl) (by rw[←hl3];exact mE hg ht (ao hg ht _) rfl) ?_;cbv;try rw[hg] at h_1
   try rw[ht] at h_1
   refine⟨⟨(k1+1,(wrap .i64 (add v1 1)),l3),hc1_,hs1,h_1⟩,Wk.of [(0,some 177)] rfl rfl ?_ ?_,aO hc1_⟩
   ·cbv;all_goals exact⟨⟨_,rfl,rfl⟩,⟨_,rfl,rfl⟩,⟨_,rfl,rfl⟩,⟨_,rfl,rfl⟩,⟨_,rfl,rfl⟩,trivial⟩
   cbv;all_goals exact⟨⟨_,rfl,rfl⟩,trivial⟩
  have hb1:lt v1 (llen (r_S a0))=false:=iH hg ht hi1 hc1_;rw[List.drop_of_length_le (Nat.le_of_not_lt hc1_)] at h_1;rw[dd] at h_1;try rw[←hg] at h_1
  try rw[←ht] at h_1
  try dsimp only at h_1
  rw[hb1];cbv;refine⟨w1,Wk.of [(0,some 0)] rfl rfl ?_ ?_,(Option.some.inj h_1).symm⟩
  ·cbv;all_goals exact⟨⟨_,rfl,rfl⟩,trivial⟩
  cbv;all_goals exact⟨⟨_,rfl,rfl⟩,trivial⟩
 rintro y1 hy1;replace hy1:=hy1.symm;subst hy1;try dsimp only[lr,lrL,lrp,aP] at h
 cbv;obtain rfl:=Option.some.inj h;exact ARet.mk ⟨rfl,(ao hg ht _)⟩ hX.symm
def GZ:J:=js [jq 2 (.mv (.k (.c (.n 1))))] [0] (js [jq 3 (.bsl 1 []),jm 4 0,jq 5 (.app 1 8 false 3 4),jm 2 5] [2] .ret)
def GF:List RV:=[.t 2]
def oZ (g:G) (t:TE) (a0:List Int):Option (List Int):=
 lP ([]) fun(l1:List Int)=>
 gd (((l1.length+a0.length)*8≤70368744177664))<|
 lP (l1++a0) fun(l2:List Int)=>
 some l2
theorem y5 {g:G} {t:TE} {a0:List Int} {r:List Int} (hg:g=G.real) (ht:t=TE.real) (h:oZ g t a0=some r):Fn Tryz.prog 157 [.c (.s 1 (t.r_I64 a0))] (.c (.o 1 (t.d_I64 r))):=by
 obtain⟨X,hX⟩:=aE (.c (.o 1 (t.d_I64 r)):X);rw[←hX];refine au (rvs:=GF) (j:=GZ) Tryz.func157 rfl (by kernel_rfl) (nb rfl) (by kernel_rfl) ae ?_;intro g2 F hg2 hF;obtain rfl:g2=g:=hg2.unique.trans hg.symm;clear hg2;obtain⟨_,_,_,_,_,_,_,_,_,_,_,_,_,_,_,_,_,_,_,_,_,_,_,_,dlen⟩:=g2;obtain⟨_,_,_,d_I64⟩:=t
 unfold oZ at h;try dsimp only at h
 cbv;obtain⟨l1,hl1,h⟩:=ak h;try dsimp only at h
 refine ANew.mk (d_I64 l1) (dlen (d_I64 l1)) (by rw[←hl1];exact fo hg ht []) (by rw[←hl1];exact dX hg ht []) ?_;cbv;obtain⟨hc1,h⟩:=ah h;refine AStep.mk (jD hg ht (ao hg ht _) (yW hg ht _) hc1) ?_;cbv;obtain⟨l2,hl2,h⟩:=ak h;try dsimp only at h
 refine ANew.mk (d_I64 l2) (dlen (d_I64 l2)) (by rw[←hl2];exact oR hg ht (ao hg ht _) (yW hg ht _)) (by rw[←hl2];exact mE hg ht (ao hg ht _) (yW hg ht _)) ?_;cbv;obtain rfl:=Option.some.inj h;exact ARet.mk ⟨rfl,(ao hg ht _)⟩ hX.symm
def GS:J:=js [jq 3 (.box 0),jm 6 (ki 0)] [1,2,3] (.seq (js [jm 7 (ki 0)] [1,2,3,7] (.bl 0 (.seq (js [jm 8 7,jb 9 .leq .i 8 (ki 60)] [1,2,3,7,9] (.cond 9 .skip (.exit 0))) (.seq (.block 1 (js [jl 12 3 3,jm 13 1,jm 14 7,jc 15 144 [12,13,14],jm 16 15,ju 17 16 (.ld true 3 3),ju 18 16 (.mv 1),ju 19 16 (.mv 7),ju 20 16 (.bld [.r (.v (.int .i64 0)),.r (.v (.int .i64 0))] [(0,1,18),(1,1,19)]),ju 21 16 (.call 85 true [17,20]),ju 22 16 (.mv 2),ju 23 16 (.bin .geq .i 21 22),jq 24 (.pick 16 23 kf)] [1,2,3,7,24] (.cond 24 (js [jm 25 7,jm 6 25] [6] .ret) .skip))) (.reg none [jm 10 7,jb 11 .add .i 10 (ki 1),jm 7 11] [1,2,3,7]))))) (js [jq 6 (.mv (.k (V.i (-1))))] [6] .ret))
def HN:List RV:=[.t 6]
def dZ (g:G) (t:TE) (a0:Network) (a1:Int) (a2:Int):Nat→Int→Option (LR Int Unit)
 |0,v1=>
  some (LR.out ())
 |n1+1,v1=>
  cl (iE g t a0 a1 v1) fun x1=>
  br x1
  (
   cl (aU g t a0 (Trip.mk a1 v1)) fun x2=>
   br (g.le a2 x2)
   (
    some (LR.ret v1))
   (
    dZ g t a0 a1 a2 n1 (g.wrap .i64 (g.add v1 1))))
  (
   dZ g t a0 a1 a2 n1 (g.wrap .i64 (g.add v1 1)))
def mC (g:G) (t:TE) (a0:Network) (a1:Int) (a2:Int):Option Int:=
 cl (dZ g t a0 a1 a2 (e9 0 60) 0) fun o1=>lr o1 fun y1=>
 some (-1)
theorem yO {g:G} {t:TE} {a0:Network} {a1:Int} {a2:Int} {r:Int} (hg:g=G.real) (ht:t=TE.real) (h:mC g t a0 a1 a2=some r):Fn Tryz.prog 158 [.g (Network.rs t a0),.c (.v (.int .i64 a1)),.c (.v (.int .i64 a2))] (.c (.r (.v (.int .i64 r)))):=by
 obtain⟨X,hX⟩:=aE (.c (.r (.v (.int .i64 r))):X);rw[←hX];refine au (rvs:=HN) (j:=GS) Tryz.func158 rfl (by kernel_rfl) (nb rfl) (by kernel_rfl) ae ?_;intro g2 F hg2 hF;obtain rfl:g2=g:=hg2.unique.trans hg.symm;clear hg2;obtain⟨wrap,_,le,_,_,_,_,_,_,_,_,_,_,add⟩:=g2;obtain⟨r_Leg,_,r_I64⟩:=t
 obtain⟨a0_Legs,a0_Off,a0_Change⟩:=a0;unfold mC at h;try dsimp only at h
 cbv;obtain⟨o1,ho1,h⟩:=ac h;try dsimp only at h
 try rw[hg] at ho1
 try rw[ht] at ho1
 refine ABL.mk {p:Nat×Int//p.1=e9 p.2 60∧0≤p.2∧dZ G.real TE.real (Network.mk a0_Legs a0_Off a0_Change) a1 a2 p.1 p.2=some o1} (fun⟨⟨n1,v1⟩,_⟩=>({sl:=[(1,.c (.r (.v (.int .i64 a1)))),(2,.c (.r (.v (.int .i64 a2)))),(3,.c (.p 0 3 0 0)),(7,.c (.r (.v (.int .i64 v1))))],tab:=[(0,some (.foc 3 [] [.r (.s 6 (r_Leg a0_Legs)),.r (.s 1 (r_I64 a0_Off)),.r (.v (.int .i64 a0_Change))] []))]}:St)) 1 (fun p=>p.1.1) ⟨(e9 0 60,0),rfl,Int.le_refl _,ho1⟩ (Unit) (fun _=>({sl:=[],tab:=[]}:St)) 0 (fun y=>o1=LR.out y) ?_ ?_ ?_
 ·refine Wk.of [(0,some 0)] rfl rfl ?_ ?_
  ·cbv;all_goals exact⟨⟨_,rfl,rfl⟩,⟨_,rfl,rfl⟩,⟨_,rfl,rfl⟩,⟨_,rfl,rfl⟩,trivial⟩
  cbv;all_goals exact⟨⟨_,rfl,_,rfl,rfl,rfl,rfl,trivial⟩,trivial⟩
 ·rintro⟨⟨n1,v1⟩,hn1,hi1,h_1⟩ hq1;try dsimp only at hn1 hi1 h_1
  clear hq1;cbv;rcases n1 with _|n1
  ·have hb1:le v1 60=false:=mU hg hn1;rw[dZ] at h_1;try rw[←hg] at h_1
   try rw[←ht] at h_1
   try dsimp only at h_1
   rw[hb1];cbv;refine⟨(),Wk.of [] rfl rfl ?_ ?_,(Option.some.inj h_1).symm⟩
   ·cbv;all_goals exact trivial
   cbv;all_goals exact trivial
  have hb1:le v1 60=true:=oH hg hn1;have hl1:=uV hn1;have hs1:=qR hg hn1 hi1 (by decide) (by decide);rw[dZ] at h_1;try rw[←hg] at h_1
  try rw[←ht] at h_1
  try dsimp only at h_1
  rw[hb1];cbv;obtain⟨x1,hx1,h_1⟩:=ac h_1;try dsimp only at h_1
  refine ACall.mk _ _ rfl (hF _ _ _ (sW hg ht hx1)) (.inl rfl) (nb rfl) ?_;cbv
  cases hb2:x1
  ·rw[aa hb2] at h_1;cbv;iterate 7 try(rw[hb2];cbv)
   try rw[hg] at h_1
   try rw[ht] at h_1
   refine⟨⟨(n1,(wrap .i64 (add v1 1))),hs1.1,hs1.2,h_1⟩,Wk.of [(0,some 0)] rfl rfl ?_ ?_,Nat.lt_succ_self _⟩
   ·cbv;all_goals exact⟨⟨_,rfl,rfl⟩,⟨_,rfl,rfl⟩,⟨_,rfl,rfl⟩,⟨_,rfl,rfl⟩,trivial⟩
   cbv;all_goals exact⟨⟨_,rfl,_,rfl,rfl,rfl,rfl,trivial⟩,trivial⟩
  rw[ab hb2] at h_1;cbv;iterate 4 try(rw[hb2];cbv)
  obtain⟨x2,hx2,h_1⟩:=ac h_1;try dsimp only at h_1
  refine ACall.mk _ _ rfl (hF _ _ _ (ba hg ht hx2)) (.inl rfl) (nb rfl) ?_;cbv;iterate 3 try(rw[hb2];cbv)
  cases hb3:(le a2 x2)
  rotate_left
  ·rw[ab hb3] at h_1;cbv;obtain rfl:=Option.some.inj h_1;try dsimp only[lr,lrL,lrp,aP] at h
   obtain rfl:=Option.some.inj h;exact ARet.mk trivial hX.symm
  rw[aa hb3] at h_1;cbv;try rw[hg] at h_1
  try rw[ht] at h_1
  refine⟨⟨(n1,(wrap .i64 (add v1 1))),hs1.1,hs1.2,h_1⟩,Wk.of [(0,some 0)] rfl rfl ?_ ?_,Nat.lt_succ_self _⟩
  ·cbv;all_goals exact⟨⟨_,rfl,rfl⟩,⟨_,rfl,rfl⟩,⟨_,rfl,rfl⟩,⟨_,rfl,rfl⟩,trivial⟩
  cbv;all_goals exact⟨⟨_,rfl,_,rfl,rfl,rfl,rfl,trivial⟩,trivial⟩
 rintro _ hy1;replace hy1:=hy1.symm;subst hy1;try dsimp only[lr,lrL,lrp,aP] at h
 cbv;obtain rfl:=Option.some.inj h;exact ARet.mk trivial hX.symm
def HR:J:=js [jq 3 (.box 0),jm 6 (ki 0)] [1,2,3] (.seq (js [jm 7 2] [1,3,7] (.cond 7 (js [jm 8 1,jm 6 8] [6] .ret) .skip)) (js [jm 9 1,jf 10 2 3,jk 11 10,jb 12 .add .i 9 11,jm 6 12] [6] .ret))
def GW:List RV:=[.t 6]
def kE (g:G) (t:TE) (a0:Network) (a1:Int) (a2:Bool):Int:=
 br a2
 (
  a1)
 (
  (g.wrap .i64 (g.add a1 a0.Change)))
theorem wB {g:G} {t:TE} {a0:Network} {a1:Int} {a2:Bool} {r:Int} (hg:g=G.real) (ht:t=TE.real) (h:kE g t a0 a1 a2=r):Fn Tryz.prog 159 [.g (Network.rs t a0),.c (.v (.int .i64 a1)),.c (.v (.bool a2))] (.c (.r (.v (.int .i64 r)))):=by
 obtain⟨X,hX⟩:=aE (.c (.r (.v (.int .i64 r))):X);rw[←hX];refine au (rvs:=GW) (j:=HR) Tryz.func159 rfl (by kernel_rfl) (nb rfl) (by kernel_rfl) ae ?_;intro g2 F hg2 hF;obtain rfl:g2=g:=hg2.unique.trans hg.symm;clear hg2;obtain⟨_⟩:=g2;obtain⟨_⟩:=t
 obtain⟨a0_Legs,a0_Off,a0_Change⟩:=a0;unfold kE at h;try dsimp only at h
 cbv
 cases hb1:a2
 rotate_left
 ·rw[ab hb1] at h;cbv;subst h;exact ARet.mk trivial hX.symm
 rw[aa hb1] at h;cbv;subst h;exact ARet.mk trivial hX.symm
def GR:J:=js [jq 4 (.box 0),jq 8 (.mv (.k (.c (.n 1))))] [1,2,3,4] (js [jm 15 2,jc 16 157 [15],jm 9 16] [1,2,3,4,9] (.seq (js [jm 10 (ki 0)] [1,2,3,4,9,10] (.bl 0 (.seq (js [jm 17 10,jf 18 0 4,jk 19 18,jq 20 (.len false 19),jb 21 .lss .i 17 20] [1,2,3,4,9,10,21] (.cond 21 .skip (.exit 0))) (.seq (.block 1 (js [jm 24 1,jf 25 0 4,jk 26 25,jm 27 10,ja 28 6 26 27,jf 29 0 28,jk 30 29,jc 31 77 [24,30],jm 11 31] [1,2,3,4,9,10,11] (js [jm 32 1,jf 33 0 4,jk 34 33,jm 35 10,ja 36 6 34 35,jf 37 1 36,jk 38 37,jc 39 77 [32,38],jm 12 39] [1,2,3,4,9,10,11,12] (.seq (js [jm 40 2,jm 41 11,ja 42 1 40 41,jk 43 42,jb 44 .lss .i 43 (ki 0)] [1,2,3,4,9,10,11,12,44] (.cond 44 (.exit 1) .skip)) (.seq (.reg (some [[],[],[],[],[],[3,4],[3,4,5],[],[],[7,8],[2,3,4,5,6,7,8,9],[0,1,2,3,4,5,6,7,8,9,10],[0,1,2,3,4,5,6,7,8,9,10,11]]) [jl 45 3 4,jm 46 10,jl 47 3 4,jm 48 2,jm 49 11,ja 50 1 48 49,jk 51 50,jm 52 11,jm 53 3,jb 54 .eql .i 52 53,jc 55 159 [47,51,54],jc 56 158 [45,46,55],jm 13 56] [1,2,3,4,9,10,12,13]) (.seq (js [jm 57 13,jb 58 .lss .i 57 (ki 0)] [1,2,3,4,9,10,12,13,58] (.cond 58 (.exit 1) .skip)) (js [jl 59 3 4,jm 60 10,jm 61 13,jq 62 (.bld [.r (.v (.int .i64 0)),.r (.v (.int .i64 0))] [(0,1,60),(1,1,61)]),jc 63 86 [59,62],jm 14 63] [1,2,3,4,9,10,12,14] (js [jm 64 9,jm 65 12,ja 66 1 64 65,jk 67 66,jb 68 .lss .i 67 (ki 0),jm 69 68,jv 70 69 (.mv 14),jv 71 69 (.mv 9),jv 72 69 (.mv 12),jv 73 69 (.ia 1 71 72),jv 74 69 (.ld false 1 73),jv 75 69 (.bin .lss .i 70 74),jq 76 (.pick 69 kt 75)] [1,2,3,4,9,10,12,14,76] (.cond 76 (.reg none [jm 77 9,jm 78 12,jm 79 14,ja 80 1 77 78,jp (.st 1 80 79)] [1,2,3,4,9,10]) .skip))))))))) (.reg none [jm 22 10,jb 23 .add .i 22 (ki 1),jm 10 23] [1,2,3,4,9,10]))))) (js [jm 81 9,jm 8 81] [8] .ret)))
def Gj:List RV:=[.t 8]
def bP (g:G) (t:TE) (a0:Network) (a1:List ByteArray) (a2:List Int) (a3:Int):List Leg→Int→List Int→Option (List Int)
 |[],v1,w1=>
  some w1
 |z1::ls1,v1,w1=>
  lP (eA g t a1 z1.From) fun x2=>
  lP (eA g t a1 z1.To) fun x3=>
  gd (((0:Int)≤x2))<|
  gt a2 (g.nat x2) fun x4=>
  br (g.lt x4 0)
  (
   bP g t a0 a1 a2 a3 ls1 (g.wrap .i64 (g.add v1 1)) w1)
  (
   gd (((0:Int)≤x2))<|
   lP (kE g t a0 x4 (g.eq x2 a3)) fun x5=>
   cl (mC g t a0 v1 x5) fun x6=>
   br (g.lt x6 0)
   (
    bP g t a0 a1 a2 a3 ls1 (g.wrap .i64 (g.add v1 1)) w1)
   (
    cl (bw g t a0 (Trip.mk v1 x6)) fun x7=>
    gd (((0:Int)≤x3∧x3<(((g.dlen (t.d_I64 w1)):Nat):Int)))<|
    gt w1 (g.nat x3) fun x8=>
    br (g.lt x8 0)
    (
     gd (((0:Int)≤x3∧x3<(((g.dlen (t.d_I64 w1)):Nat):Int)))<|
     lP (List.set w1 (g.nat x3) x7) fun(l1:List Int)=>
     bP g t a0 a1 a2 a3 ls1 (g.wrap .i64 (g.add v1 1)) l1)
    (
     gd (((0:Int)≤x3∧x3<(((g.dlen (t.d_I64 w1)):Nat):Int)))<|
     br (g.lt x7 x8)
     (
      gd (((0:Int)≤x3∧x3<(((g.dlen (t.d_I64 w1)):Nat):Int)))<|
      lP (List.set w1 (g.nat x3) x7) fun(l2:List Int)=>
      bP g t a0 a1 a2 a3 ls1 (g.wrap .i64 (g.add v1 1)) l2)
     (
      bP g t a0 a1 a2 a3 ls1 (g.wrap .i64 (g.add v1 1)) w1))))
def mY (g:G) (t:TE) (a0:Network) (a1:List ByteArray) (a2:List Int) (a3:Int):Option (List Int):=
 cl (oZ g t a2) fun x1=>
 cl (bP g t a0 a1 a2 a3 a0.Legs 0 x1) fun y1=>
 some y1
theorem vJ {g:G} {t:TE} {a0:Network} {a1:List ByteArray} {a2:List Int} {a3:Int} {r:List Int} (hg:g=G.real) (ht:t=TE.real) (h:mY g t a0 a1 a2 a3=some r):Fn Tryz.prog 149 [.g (Network.rs t a0),.c (.s 1 (t.r_S a1)),.c (.s 1 (t.r_I64 a2)),.c (.v (.int .i64 a3))] (.c (.o 1 (t.d_I64 r))):=by
 obtain⟨X,hX⟩:=aE (.c (.o 1 (t.d_I64 r)):X);rw[←hX];refine au (rvs:=Gj) (j:=GR) Tryz.func149 rfl (by kernel_rfl) (nb rfl) (by kernel_rfl) ae ?_;intro g2 F hg2 hF;obtain rfl:g2=g:=hg2.unique.trans hg.symm;clear hg2;obtain⟨wrap,lt,_,_,_,_,_,_,_,_,_,_,_,add,_,_,_,_,_,_,_,llen,_,_,dlen⟩:=g2;obtain⟨r_Leg,_,r_I64,d_I64,_,_,r_S⟩:=t
 obtain⟨a0_Legs,a0_Off,a0_Change⟩:=a0;unfold mY at h;try dsimp only at h
 cbv;obtain⟨x1,hx1,h⟩:=ac h;try dsimp only at h
 refine ACall.mk _ _ rfl (hF _ _ _ (y5 hg ht hx1)) (.inl rfl) (nb rfl) ?_;cbv;obtain⟨o1,ho1,h⟩:=ac h;try dsimp only at h
 try rw[hg] at ho1
 try rw[ht] at ho1
 refine ABL.mk {p:Nat×Int×List Int//p.1≤a0_Legs.length∧p.2.1=((p.1:Nat):Int)∧bP G.real TE.real (Network.mk a0_Legs a0_Off a0_Change) a1 a2 a3 (List.drop p.1 a0_Legs) p.2.1 p.2.2=some o1} (fun⟨⟨k1,v1,w1⟩,_⟩=>({sl:=[(1,.c (.r (.s 1 (r_S a1)))),(2,.c (.r (.s 1 (r_I64 a2)))),(3,.c (.r (.v (.int .i64 a3)))),(4,.c (.p 0 3 0 0)),(9,.c (.f 1 1 0 (dlen (d_I64 w1)))),(10,.c (.r (.v (.int .i64 v1))))],tab:=[(0,some (.foc 3 [] [.r (.s 6 (r_Leg a0_Legs)),.r (.s 1 (r_I64 a0_Off)),.r (.v (.int .i64 a0_Change))] [])),(1,some (.arr 1 (d_I64 w1)))]}:St)) 2 (fun p=>a0_Legs.length-p.1.1) ⟨(0,0,x1),Nat.zero_le _,rfl,ho1⟩ (List Int) (fun y1=>({sl:=[(9,.c (.f 0 1 0 (dlen (d_I64 y1))))],tab:=[(0,some (.arr 1 (d_I64 y1)))]}:St)) 1 (fun y=>o1=y) ?_ ?_ ?_
 ·refine Wk.of [(0,some 0),(1,some 48)] rfl rfl ?_ ?_
  ·cbv;all_goals exact⟨⟨_,rfl,rfl⟩,⟨_,rfl,rfl⟩,⟨_,rfl,rfl⟩,⟨_,rfl,rfl⟩,⟨_,rfl,rfl⟩,⟨_,rfl,rfl⟩,trivial⟩
  cbv;all_goals exact⟨⟨_,rfl,_,rfl,rfl,rfl,rfl,trivial⟩,⟨_,rfl,rfl⟩,trivial⟩
 ·rintro⟨⟨k1,v1,w1⟩,hk1,hi1,h_1⟩ hq1;have hm1:=(hq1.2.2.1 0 _ _ _ _ 0 _ _ rfl rfl);try dsimp only at hk1 hi1 h_1
  clear hq1;cbv
  by_cases hc1_:k1<a0_Legs.length
  ·have hb1:lt v1 (llen (r_Leg a0_Legs))=true:=cL hg ht hi1 hc1_;have hs1:=ff hg ht hi1 hc1_ hm1;obtain⟨z1,hz1⟩:=aF hc1_;rw[aw hz1] at h_1;rw[bP] at h_1;obtain⟨z1_From,z1_To,z1_Start,z1_Takes,z1_Days,z1_Room⟩:=z1;try rw[←hg] at h_1
   try rw[←ht] at h_1
   try dsimp only at h_1
   rw[hb1];cbv;refine AStep.mk (e7 hi1) ?_;cbv;refine AGet.mk _ (eU hg ht hi1 hz1) ?_;cbv;obtain⟨x2,hx2,h_1⟩:=ak h_1;try dsimp only at h_1
   refine ACall.mk _ _ rfl (hF _ _ _ (fH hg ht hx2)) (.inl rfl) (nb rfl) ?_;cbv;refine AStep.mk (e7 hi1) ?_;cbv;refine AGet.mk _ (eU hg ht hi1 hz1) ?_;cbv;obtain⟨x3,hx3,h_1⟩:=ak h_1;try dsimp only at h_1
   refine ACall.mk _ _ rfl (hF _ _ _ (fH hg ht hx3)) (.inl rfl) (nb rfl) ?_;cbv;obtain⟨hc1,h_1⟩:=ah h_1;refine AStep.mk hc1 ?_;cbv;obtain⟨x4,hx4,h_1⟩:=aB h_1;try dsimp only at h_1
   refine AGet.mk _ (jz hg ht hx4) ?_;cbv
   cases hb2:(lt x4 0)
   rotate_left
   ·rw[ab hb2] at h_1;cbv;try rw[hg] at h_1
    try rw[ht] at h_1
    refine⟨⟨(k1+1,(wrap .i64 (add v1 1)),w1),hc1_,hs1,h_1⟩,Wk.of [(0,some 0),(1,some 1)] rfl rfl ?_ ?_,aO hc1_⟩
    ·cbv;all_goals exact⟨⟨_,rfl,rfl⟩,⟨_,rfl,rfl⟩,⟨_,rfl,rfl⟩,⟨_,rfl,rfl⟩,⟨_,rfl,rfl⟩,⟨_,rfl,rfl⟩,trivial⟩
    cbv;all_goals exact⟨⟨_,rfl,_,rfl,rfl,rfl,rfl,trivial⟩,⟨_,rfl,rfl⟩,trivial⟩
   rw[aa hb2] at h_1;cbv;obtain⟨hc2,h_1⟩:=ah h_1;refine AStep.mk hc2 ?_;cbv;refine AGet.mk _ (jz hg ht hx4) ?_;cbv;obtain⟨x5,hx5,h_1⟩:=ak h_1;try dsimp only at h_1
   refine ACall.mk _ _ rfl (hF _ _ _ (wB hg ht hx5)) (.inl rfl) (nb rfl) ?_;cbv;obtain⟨x6,hx6,h_1⟩:=ac h_1;try dsimp only at h_1
   refine ACall.mk _ _ rfl (hF _ _ _ (yO hg ht hx6)) (.inl rfl) (nb rfl) ?_;cbv
   cases hb3:(lt x6 0)
   rotate_left
   ·rw[ab hb3] at h_1;cbv;try rw[hg] at h_1
    try rw[ht] at h_1
    refine⟨⟨(k1+1,(wrap .i64 (add v1 1)),w1),hc1_,hs1,h_1⟩,Wk.of [(0,some 0),(1,some 1)] rfl rfl ?_ ?_,aO hc1_⟩
    ·cbv;all_goals exact⟨⟨_,rfl,rfl⟩,⟨_,rfl,rfl⟩,⟨_,rfl,rfl⟩,⟨_,rfl,rfl⟩,⟨_,rfl,rfl⟩,⟨_,rfl,rfl⟩,trivial⟩
    cbv;all_goals exact⟨⟨_,rfl,_,rfl,rfl,rfl,rfl,trivial⟩,⟨_,rfl,rfl⟩,trivial⟩
   rw[aa hb3] at h_1;cbv;obtain⟨x7,hx7,h_1⟩:=ac h_1;try dsimp only at h_1
   refine ACall.mk _ _ rfl (hF _ _ _ (bu hg ht hx7)) (.inl rfl) (nb rfl) ?_;cbv;obtain⟨hc3,h_1⟩:=ah h_1;refine AStep.mk hc3 ?_;cbv;obtain⟨x8,hx8,h_1⟩:=aB h_1;try dsimp only at h_1
   refine AGet.mk _ (bD hg ht hx8) ?_;cbv
   cases hb4:(lt x8 0)
   rotate_left
   ·rw[ab hb4] at h_1;cbv;iterate 6 try(rw[hb4];cbv)
    obtain⟨hc4,h_1⟩:=ah h_1;refine AStep.mk hc4 ?_;cbv;refine AGet.mk _ (bD hg ht hx8) ?_;cbv;obtain⟨l1,hl1,h_1⟩:=ak h_1;try dsimp only at h_1
    refine ANew.mk (d_I64 l1) _ (by rw[←hl1];exact jI hg ht _ _ x7) rfl ?_;have hnl1:(dlen (d_I64 w1))=(d_I64 l1).length:=(by rw[←hl1,ic ht];exact(ao hg ht _));cbv;try rw[hg] at h_1
    try rw[ht] at h_1
    refine⟨⟨(k1+1,(wrap .i64 (add v1 1)),l1),hc1_,hs1,h_1⟩,Wk.of [(0,some 0),(1,some 1)] rfl rfl ?_ ?_,aO hc1_⟩
    ·cbv;all_goals try rw[show(dlen (d_I64 w1))=(dlen (d_I64 l1)) from(hnl1).trans (ao hg ht _).symm]
     all_goals exact⟨⟨_,rfl,rfl⟩,⟨_,rfl,rfl⟩,⟨_,rfl,rfl⟩,⟨_,rfl,rfl⟩,⟨_,rfl,rfl⟩,⟨_,rfl,rfl⟩,trivial⟩
    cbv;all_goals try rw[show(dlen (d_I64 w1))=(dlen (d_I64 l1)) from(hnl1).trans (ao hg ht _).symm]
    all_goals exact⟨⟨_,rfl,_,rfl,rfl,rfl,rfl,trivial⟩,⟨_,rfl,rfl⟩,trivial⟩
   rw[aa hb4] at h_1;cbv;iterate 3 try(rw[hb4];cbv)
   obtain⟨hc5,h_1⟩:=ah h_1;refine AStep.mk hc5 ?_;cbv;try(rw[hb4];cbv)
   refine AGet.mk _ (bD hg ht hx8) ?_;cbv;iterate 2 try(rw[hb4];cbv)
   cases hb5:(lt x7 x8)
   ·rw[aa hb5] at h_1;cbv;try rw[hg] at h_1
    try rw[ht] at h_1
    refine⟨⟨(k1+1,(wrap .i64 (add v1 1)),w1),hc1_,hs1,h_1⟩,Wk.of [(0,some 0),(1,some 1)] rfl rfl ?_ ?_,aO hc1_⟩
    ·cbv;all_goals exact⟨⟨_,rfl,rfl⟩,⟨_,rfl,rfl⟩,⟨_,rfl,rfl⟩,⟨_,rfl,rfl⟩,⟨_,rfl,rfl⟩,⟨_,rfl,rfl⟩,trivial⟩
    cbv;all_goals exact⟨⟨_,rfl,_,rfl,rfl,rfl,rfl,trivial⟩,⟨_,rfl,rfl⟩,trivial⟩
   rw[ab hb5] at h_1;cbv;obtain⟨hc6,h_1⟩:=ah h_1;refine AStep.mk hc6 ?_;cbv;refine AGet.mk _ (bD hg ht hx8) ?_;cbv;obtain⟨l2,hl2,h_1⟩:=ak h_1;try dsimp only at h_1
   refine ANew.mk (d_I64 l2) _ (by rw[←hl2];exact jI hg ht _ _ x7) rfl ?_;have hnl2:(dlen (d_I64 w1))=(d_I64 l2).length:=(by rw[←hl2,ic ht];exact(ao hg ht _));cbv;try rw[hg] at h_1
   try rw[ht] at h_1
   refine⟨⟨(k1+1,(wrap .i64 (add v1 1)),l2),hc1_,hs1,h_1⟩,Wk.of [(0,some 0),(1,some 1)] rfl rfl ?_ ?_,aO hc1_⟩
   ·cbv;all_goals try rw[show(dlen (d_I64 w1))=(dlen (d_I64 l2)) from(hnl2).trans (ao hg ht _).symm]
    all_goals exact⟨⟨_,rfl,rfl⟩,⟨_,rfl,rfl⟩,⟨_,rfl,rfl⟩,⟨_,rfl,rfl⟩,⟨_,rfl,rfl⟩,⟨_,rfl,rfl⟩,trivial⟩
   cbv;all_goals try rw[show(dlen (d_I64 w1))=(dlen (d_I64 l2)) from(hnl2).trans (ao hg ht _).symm]
   all_goals exact⟨⟨_,rfl,_,rfl,rfl,rfl,rfl,trivial⟩,⟨_,rfl,rfl⟩,trivial⟩
  have hb1:lt v1 (llen (r_Leg a0_Legs))=false:=cg hg ht hi1 hc1_;rw[List.drop_of_length_le (Nat.le_of_not_lt hc1_)] at h_1;rw[bP] at h_1;try rw[←hg] at h_1
  try rw[←ht] at h_1
  try dsimp only at h_1
  rw[hb1];cbv;refine⟨w1,Wk.of [(0,some 1)] rfl rfl ?_ ?_,(Option.some.inj h_1).symm⟩
  ·cbv;all_goals exact⟨⟨_,rfl,rfl⟩,trivial⟩
  cbv;all_goals exact⟨⟨_,rfl,rfl⟩,trivial⟩
 rintro y1 hy1;replace hy1:=hy1.symm;subst hy1;try dsimp only[lr,lrL,lrp,aP] at h
 cbv;obtain rfl:=Option.some.inj h;exact ARet.mk ⟨rfl,(ao hg ht _)⟩ hX.symm
def GA:J:=js [jq 4 (.box 0),jq 8 (.mv (.k (.c (.n 1))))] [1,2,3,4] (js [jl 13 3 4,jc 14 78 [13],jm 9 14] [1,2,3,4,9] (js [jm 15 9,jm 16 1,jc 17 77 [15,16],jm 10 17] [2,3,4,9,10] (.seq (js [jl 18 3 4,jc 19 101 [18],jq 20 (.not 19),jm 21 20,jv 22 21 (.mv 10),jv 23 21 (.bin .lss .i 22 (ki 0)),jq 24 (.pick 21 kt 23),jm 25 24,jv 26 25 (.mv 2),jv 27 25 (.bin .gtr .i 26 (ki 100000)),jq 28 (.pick 25 kt 27),jm 29 28,jv 30 29 (.mv 3),jv 31 29 (.bin .lss .i 30 (ki 0)),jq 32 (.pick 29 kt 31)] [2,3,4,9,10,32] (.cond 32 (js [jq 33 (.bsl 1 []),jm 8 33] [8] .ret) .skip)) (js [jm 34 9,jm 35 10,jm 36 2,jc 37 148 [34,35,36],jm 11 37] [3,4,9,10,11] (.seq (js [jm 12 (ki 0)] [3,4,9,10,11,12] (.bl 0 (.seq (js [jm 38 12,jm 39 3,jb 40 .lss .i 38 39,jm 41 40,ju 42 41 (.mv 12),ju 43 41 (.mv 9),ju 44 41 (.len false 43),ju 45 41 (.bin .lss .i 42 44),jq 46 (.pick 41 45 kf)] [3,4,9,10,11,12,46] (.cond 46 .skip (.exit 0))) (.seq (.block 1 (.reg none [jl 49 3 4,jm 50 9,jm 51 11,jm 52 10,jc 53 149 [49,50,51,52],jm 11 53] [3,4,9,10,11,12])) (.reg none [jm 47 12,jb 48 .add .i 47 (ki 1),jm 12 48] [3,4,9,10,11,12]))))) (js [jm 54 11,jm 8 54] [8] .ret))))))
def GU:List RV:=[.t 8]
def bH (g:G) (t:TE) (a0:Network) (x1:List ByteArray) (x2:Int):Nat→Int→List Int→Option (List Int)
 |0,v1,w1=>
  some w1
 |n1+1,v1,w1=>
  br (g.lt v1 (g.int (g.dlen (t.d_S x1))))
  (
   cl (mY g t a0 x1 w1 x2) fun x5=>
   bH g t a0 x1 x2 n1 (g.wrap .i64 (g.add v1 1)) x5)
  (
   some w1)
def dE (g:G) (t:TE) (a0:Network) (a1:ByteArray) (a2:Int) (a3:Int):Option (List Int):=
 cl (dH g t a0) fun x1=>
 lP (eA g t x1 a1) fun x2=>
 cl (dY g t a0) fun x3=>
 br x3
 (
  br (g.lt x2 0)
  (
   lP ([]) fun(l1:List Int)=>
   some l1)
  (
   br (g.lt 100000 a2)
   (
    lP ([]) fun(l2:List Int)=>
    some l2)
   (
    br (g.lt a3 0)
    (
     lP ([]) fun(l3:List Int)=>
     some l3)
    (
     cl (kW g t x1 x2 a2) fun x4=>
     gd ((a3≤9223372036854775807))<|
     cl (bH g t a0 x1 x2 (aq 0 a3) 0 x4) fun y1=>
     some y1))))
 (
  lP ([]) fun(l4:List Int)=>
  some l4)
theorem py {g:G} {t:TE} {a0:Network} {a1:ByteArray} {a2:Int} {a3:Int} {r:List Int} (hg:g=G.real) (ht:t=TE.real) (h:dE g t a0 a1 a2 a3=some r):Fn Tryz.prog 140 [.g (Network.rs t a0),.c (.v (.string a1)),.c (.v (.int .i64 a2)),.c (.v (.int .i64 a3))] (.c (.o 1 (t.d_I64 r))):=by
 obtain⟨X,hX⟩:=aE (.c (.o 1 (t.d_I64 r)):X);rw[←hX];refine au (rvs:=GU) (j:=GA) Tryz.func140 rfl (by kernel_rfl) (nb rfl) (by kernel_rfl) ae ?_;intro g2 F hg2 hF;obtain rfl:g2=g:=hg2.unique.trans hg.symm;clear hg2;obtain⟨wrap,lt,_,_,_,_,_,_,_,_,_,_,int,add,_,_,_,_,_,_,_,_,_,_,dlen,_,_,_,rd⟩:=g2;obtain⟨r_Leg,_,r_I64,d_I64,_,_,r_S,d_S⟩:=t
 obtain⟨a0_Legs,a0_Off,a0_Change⟩:=a0;have hfr_I64:∀l,dc (d_I64 l)=true:=A8 ht;unfold dE at h;try dsimp only at h
 cbv;obtain⟨x1,hx1,h⟩:=ac h;try dsimp only at h
 refine ACall.mk _ _ rfl (hF _ _ _ (eT hg ht hx1)) (.inl rfl) (nb rfl) ?_;cbv;refine AStep.mk (dN ht (al hg ht _)) ?_;cbv;obtain⟨x2,hx2,h⟩:=ak h;try dsimp only at h
 refine ACall.mk _ _ (by rw[show rd (d_S x1) 0 (dlen (d_S x1))=r_S x1 from f7 hg ht (al hg ht _)];try rfl) (hF _ _ _ (fH hg ht hx2)) (.inr rfl) (nb rfl) ?_
 cbv;obtain⟨x3,hx3,h⟩:=ac h;try dsimp only at h
 refine ACall.mk _ _ rfl (hF _ _ _ (kz hg ht hx3)) (.inl rfl) (nb rfl) ?_;cbv
 cases hb1:x3
 ·rw[aa hb1] at h;cbv;iterate 2 try(rw[hb1];cbv)
  obtain⟨l4,hl4,h⟩:=ak h;try dsimp only at h
  refine ANew.mk (d_I64 l4) (dlen (d_I64 l4)) (by rw[←hl4];exact fo hg ht []) (by rw[←hl4];exact dX hg ht []) ?_;cbv;obtain rfl:=Option.some.inj h;exact ARet.mk ⟨rfl,(ao hg ht _)⟩ hX.symm
 rw[ab hb1] at h;cbv;iterate 2 try(rw[hb1];cbv)
 cases hb2:(lt x2 0)
 rotate_left
 ·rw[ab hb2] at h;cbv;iterate 2 try(rw[hb2];cbv)
  obtain⟨l1,hl1,h⟩:=ak h;try dsimp only at h
  refine ANew.mk (d_I64 l1) (dlen (d_I64 l1)) (by rw[←hl1];exact fo hg ht []) (by rw[←hl1];exact dX hg ht []) ?_;cbv;obtain rfl:=Option.some.inj h;exact ARet.mk ⟨rfl,(ao hg ht _)⟩ hX.symm
 rw[aa hb2] at h;cbv;iterate 2 try(rw[hb2];cbv)
 cases hb3:(lt 100000 a2)
 rotate_left
 ·rw[ab hb3] at h;cbv;iterate 2 try(rw[hb3];cbv)
  obtain⟨l2,hl2,h⟩:=ak h;try dsimp only at h
  refine ANew.mk (d_I64 l2) (dlen (d_I64 l2)) (by rw[←hl2];exact fo hg ht []) (by rw[←hl2];exact dX hg ht []) ?_;cbv;obtain rfl:=Option.some.inj h;exact ARet.mk ⟨rfl,(ao hg ht _)⟩ hX.symm
 rw[aa hb3] at h;cbv;iterate 2 try(rw[hb3];cbv)
 cases hb4:(lt a3 0)
 rotate_left
 ·rw[ab hb4] at h;cbv;obtain⟨l3,hl3,h⟩:=ak h;try dsimp only at h
  refine ANew.mk (d_I64 l3) (dlen (d_I64 l3)) (by rw[←hl3];exact fo hg ht []) (by rw[←hl3];exact dX hg ht []) ?_;cbv;obtain rfl:=Option.some.inj h;exact ARet.mk ⟨rfl,(ao hg ht _)⟩ hX.symm
 rw[aa hb4] at h;cbv;refine AStep.mk (dN ht (al hg ht _)) ?_;cbv;obtain⟨x4,hx4,h⟩:=ac h;try dsimp only at h
 refine ACall.mk _ _ (by rw[show rd (d_S x1) 0 (dlen (d_S x1))=r_S x1 from f7 hg ht (al hg ht _)];try rfl) (hF _ _ _ (xH hg ht hx4)) (.inr (by simp only[Go.Vs.X.fresh,Go.Vs.X.freshs,iV,d9,Bool.and_self,hfr_I64])) (nb rfl) ?_
 cbv;obtain⟨hB1,h⟩:=ah h;obtain⟨o1,ho1,h⟩:=ac h;try dsimp only at h
 try rw[hg] at ho1
 try rw[ht] at ho1
 refine ABL.mk {p:Nat×Int×List Int//p.1=aq p.2.1 a3∧0≤p.2.1∧bH G.real TE.real (Network.mk a0_Legs a0_Off a0_Change) x1 x2 p.1 p.2.1 p.2.2=some o1} (fun⟨⟨n1,v1,w1⟩,_⟩=>({sl:=[(3,.c (.r (.v (.int .i64 a3)))),(4,.c (.p 0 3 0 0)),(9,.c (.f 1 1 0 (dlen (d_S x1)))),(10,.c (.r (.v (.int .i64 x2)))),(11,.c (.f 2 1 0 (dlen (d_I64 w1)))),(12,.c (.r (.v (.int .i64 v1))))],tab:=[(0,some (.foc 3 [] [.r (.s 6 (r_Leg a0_Legs)),.r (.s 1 (r_I64 a0_Off)),.r (.v (.int .i64 a0_Change))] [])),(1,some (.arr 1 (d_S x1))),(2,some (.arr 1 (d_I64 w1)))]}:St)) 3 (fun p=>p.1.1) ⟨(aq 0 a3,0,x4),rfl,Int.le_refl _,ho1⟩ (List Int) (fun y1=>({sl:=[(11,.c (.f 0 1 0 (dlen (d_I64 y1))))],tab:=[(0,some (.arr 1 (d_I64 y1)))]}:St)) 1 (fun y=>o1=y) ?_ ?_ ?_
 ·refine Wk.of [(0,some 0),(1,some 48),(2,some 432)] rfl rfl ?_ ?_
  ·cbv;all_goals exact⟨⟨_,rfl,rfl⟩,⟨_,rfl,rfl⟩,⟨_,rfl,rfl⟩,⟨_,rfl,rfl⟩,⟨_,rfl,rfl⟩,⟨_,rfl,rfl⟩,trivial⟩
  cbv;all_goals exact⟨⟨_,rfl,_,rfl,rfl,rfl,rfl,trivial⟩,⟨_,rfl,rfl⟩,⟨_,rfl,rfl⟩,trivial⟩
 ·rintro⟨⟨n1,v1,w1⟩,hn1,hi1,h_1⟩ hq1;try dsimp only at hn1 hi1 h_1
  clear hq1;cbv;rcases n1 with _|n1
  ·have hb5:lt v1 a3=false:=be hg hn1;rw[bH] at h_1;try rw[←hg] at h_1
   try rw[←ht] at h_1
   try dsimp only at h_1
   rw[hb5];cbv;iterate 4 try(rw[hb5];cbv)
   refine⟨w1,Wk.of [(0,some 2)] rfl rfl ?_ ?_,(Option.some.inj h_1).symm⟩
   ·cbv;all_goals exact⟨⟨_,rfl,rfl⟩,trivial⟩
   cbv;all_goals exact⟨⟨_,rfl,rfl⟩,trivial⟩
  have hb5:lt v1 a3=true:=bF hg hn1;have hl1:=dM hn1;have hs1:=cF hg hn1 hi1 hB1 (by decide);rw[bH] at h_1;try rw[←hg] at h_1
  try rw[←ht] at h_1
  try dsimp only at h_1
  rw[hb5];cbv;iterate 4 try(rw[hb5];cbv)
  cases hb6:(lt v1 (int (dlen (d_S x1))))
  ·rw[aa hb6] at h_1;cbv;refine⟨w1,Wk.of [(0,some 2)] rfl rfl ?_ ?_,(Option.some.inj h_1).symm⟩
   ·cbv;all_goals exact⟨⟨_,rfl,rfl⟩,trivial⟩
   cbv;all_goals exact⟨⟨_,rfl,rfl⟩,trivial⟩
  rw[ab hb6] at h_1;cbv;refine AStep.mk ⟨(dN ht (al hg ht _)),(kL ht (ao hg ht _))⟩ ?_;cbv;obtain⟨x5,hx5,h_1⟩:=ac h_1;try dsimp only at h_1
  refine ACall.mk _ _ (by rw[show rd (d_S x1) 0 (dlen (d_S x1))=r_S x1 from f7 hg ht (al hg ht _),show rd (d_I64 w1) 0 (dlen (d_I64 w1))=r_I64 w1 from m8 hg ht (ao hg ht _)];try rfl) (hF _ _ _ (vJ hg ht hx5)) (.inr (by simp only[Go.Vs.X.fresh,Go.Vs.X.freshs,iV,d9,Bool.and_self,hfr_I64])) (nb rfl) ?_
  cbv;try rw[hg] at h_1
  try rw[ht] at h_1
  refine⟨⟨(n1,(wrap .i64 (add v1 1)),x5),hs1.1,hs1.2,h_1⟩,Wk.of [(0,some 0),(1,some 1),(2,some 211)] rfl rfl ?_ ?_,Nat.lt_succ_self _⟩
  ·cbv;all_goals exact⟨⟨_,rfl,rfl⟩,⟨_,rfl,rfl⟩,⟨_,rfl,rfl⟩,⟨_,rfl,rfl⟩,⟨_,rfl,rfl⟩,⟨_,rfl,rfl⟩,trivial⟩
  cbv;all_goals exact⟨⟨_,rfl,_,rfl,rfl,rfl,rfl,trivial⟩,⟨_,rfl,rfl⟩,⟨_,rfl,rfl⟩,trivial⟩
 rintro y1 hy1;replace hy1:=hy1.symm;subst hy1;try dsimp only[lr,lrL,lrp,aP] at h
 cbv;obtain rfl:=Option.some.inj h;exact ARet.mk ⟨rfl,(ao hg ht _)⟩ hX.symm
def Hb:J:=js [jq 4 (.box 0),jm 8 (ki 0)] [1,2,3,4] (js [jl 12 3 4,jc 13 78 [12],jm 9 13] [1,2,3,4,9] (js [jm 14 9,jm 15 2,jc 16 77 [14,15],jm 10 16] [1,3,4,9,10] (js [jl 17 3 4,jm 18 1,jm 19 3,jm 20 9,jq 21 (.len false 20),jc 22 140 [17,18,19,21],jm 11 22] [10,11] (.seq (js [jm 23 10,jb 24 .lss .i 23 (ki 0),jm 25 24,jv 26 25 (.mv 11),jv 27 25 (.len false 26),jv 28 25 (.bin .eql .i 27 (ki 0)),jq 29 (.pick 25 kt 28)] [10,11,29] (.cond 29 (js [jq 8 (.mv (.k (V.i (-1))))] [8] .ret) .skip)) (js [jm 30 11,jm 31 10,ja 32 1 30 31,jk 33 32,jm 8 33] [8] .ret)))))
def HU:List RV:=[.t 8]
def gQ (g:G) (t:TE) (a0:Network) (a1:ByteArray) (a2:ByteArray) (a3:Int):Option Int:=
 cl (dH g t a0) fun x1=>
 lP (eA g t x1 a2) fun x2=>
 cl (dE g t a0 a1 a3 (g.int (g.dlen (t.d_S x1)))) fun x3=>
 br (g.lt x2 0)
 (
  some (-1))
 (
  br (g.eq (g.int (g.dlen (t.d_I64 x3))) 0)
  (
   some (-1))
  (
   gd (((0:Int)≤x2∧x2<(((g.dlen (t.d_I64 x3)):Nat):Int)))<|
   gt x3 (g.nat x2) fun x4=>
   some x4))
theorem sd {g:G} {t:TE} {a0:Network} {a1:ByteArray} {a2:ByteArray} {a3:Int} {r:Int} (hg:g=G.real) (ht:t=TE.real) (h:gQ g t a0 a1 a2 a3=some r):Fn Tryz.prog 118 [.g (Network.rs t a0),.c (.v (.string a1)),.c (.v (.string a2)),.c (.v (.int .i64 a3))] (.c (.r (.v (.int .i64 r)))):=by
 obtain⟨X,hX⟩:=aE (.c (.r (.v (.int .i64 r))):X);rw[←hX];refine au (rvs:=HU) (j:=Hb) Tryz.func118 rfl (by kernel_rfl) (nb rfl) (by kernel_rfl) ae ?_;intro g2 F hg2 hF;obtain rfl:g2=g:=hg2.unique.trans hg.symm;clear hg2;obtain⟨_,lt,_,eq,_,_,_,_,_,_,_,_,int,_,_,_,_,_,_,_,_,_,_,_,dlen,_,_,_,rd⟩:=g2;obtain⟨_,_,_,d_I64,_,_,r_S,d_S⟩:=t
 obtain⟨a0_Legs,a0_Off,a0_Change⟩:=a0;unfold gQ at h;try dsimp only at h
 cbv;obtain⟨x1,hx1,h⟩:=ac h;try dsimp only at h
 refine ACall.mk _ _ rfl (hF _ _ _ (eT hg ht hx1)) (.inl rfl) (nb rfl) ?_;cbv;refine AStep.mk (dN ht (al hg ht _)) ?_;cbv;obtain⟨x2,hx2,h⟩:=ak h;try dsimp only at h
 refine ACall.mk _ _ (by rw[show rd (d_S x1) 0 (dlen (d_S x1))=r_S x1 from f7 hg ht (al hg ht _)];try rfl) (hF _ _ _ (fH hg ht hx2)) (.inr rfl) (nb rfl) ?_
 cbv;obtain⟨x3,hx3,h⟩:=ac h;try dsimp only at h
 refine ACall.mk _ _ rfl (hF _ _ _ (py hg ht hx3)) (.inl rfl) (nb rfl) ?_;cbv
 cases hb1:(lt x2 0)
 rotate_left
 ·rw[ab hb1] at h;cbv;iterate 3 try(rw[hb1];cbv)
  obtain rfl:=Option.some.inj h;exact ARet.mk trivial hX.symm
 rw[aa hb1] at h;cbv;iterate 3 try(rw[hb1];cbv)
 cases hb2:(eq (int (dlen (d_I64 x3))) 0)
 rotate_left
 ·rw[ab hb2] at h;cbv;obtain rfl:=Option.some.inj h;exact ARet.mk trivial hX.symm
 rw[aa hb2] at h;cbv;obtain⟨hc1,h⟩:=ah h;refine AStep.mk hc1 ?_;cbv;obtain⟨x4,hx4,h⟩:=aB h;try dsimp only at h
 refine AGet.mk _ (bD hg ht hx4) ?_;cbv;obtain rfl:=Option.some.inj h;exact ARet.mk trivial hX.symm
def ir79:J:=js [jq 3 (.box 0),jq 4 (.box 1),jm 6 (ki 0)] [2,3,4] (.seq (js [jf 7 0 4,jk 8 7,jm 9 2,jb 10 .eql .s 8 9] [2,3,4,10] (.cond 10 (js [jf 11 1 4,jk 12 11,jm 6 12] [6] .ret) .skip)) (js [jl 13 3 3,jf 14 0 4,jk 15 14,jm 16 2,jf 17 1 4,jk 18 17,jc 19 118 [13,15,16,18],jm 6 19] [6] .ret))
def rv79:List RV:=[.t 6]
def bo (g:G) (t:TE) (a0:Network) (a1:Spot) (a2:ByteArray):Option Int:=
 br (g.seq a1.Place a2)
 (
  some a1.At)
 (
  cl (gQ g t a0 a1.Place a2 a1.At) fun x1=>
  some x1)
theorem bh {g:G} {t:TE} {a0:Network} {a1:Spot} {a2:ByteArray} {r:Int} (hg:g=G.real) (ht:t=TE.real) (h:bo g t a0 a1 a2=some r):Fn Tryz.prog 79 [.g (Network.rs t a0),.g (Spot.rs t a1),.c (.v (.string a2))] (.c (.r (.v (.int .i64 r)))):=by
 obtain⟨X,hX⟩:=aE (.c (.r (.v (.int .i64 r))):X);rw[←hX];refine au (rvs:=rv79) (j:=ir79) Tryz.func79 rfl (by kernel_rfl) (nb rfl) (by kernel_rfl) ae ?_;intro g2 F hg2 hF;obtain rfl:g2=g:=hg2.unique.trans hg.symm;clear hg2;obtain⟨_,_,_,_,_,_,_,_,_,_,_,_,_,_,_,_,_,seq⟩:=g2;obtain⟨_⟩:=t
 obtain⟨a0_Legs,a0_Off,a0_Change⟩:=a0;obtain⟨a1_Place,a1_At⟩:=a1;unfold bo at h;try dsimp only at h
 cbv
 cases hb1:(seq a1_Place a2)
 rotate_left
 ·rw[ab hb1] at h;cbv;obtain rfl:=Option.some.inj h;exact ARet.mk trivial hX.symm
 rw[aa hb1] at h;cbv;obtain⟨x1,hx1,h⟩:=ac h;try dsimp only at h
 refine ACall.mk _ _ rfl (hF _ _ _ (sd hg ht hx1)) (.inl rfl) (nb rfl) ?_;cbv;obtain rfl:=Option.some.inj h;exact ARet.mk trivial hX.symm
def Gq (s_k0:ByteArray):J:=js [jq 2 (.box 0),jq 3 (.box 1),jq 4 (.mv (.k (.c (.r (.v (.string s_k0))))))] [2,3] (.seq (.block 0 (js [jl 6 3 2,jl 7 6 3,jc 8 62 [6,7],jq 9 (.not 8),jm 5 9] [2,3,5] (.cond 5 (js [jq 4 (.mv (.k (.c (.r (.v (.string s_k0))))))] [4] .ret) (js [jf 11 2 3,jk 12 11,jb 13 .eql .i 12 (ki 3),jm 10 13] [2,3,10] (.cond 10 (js [jf 14 0 2,jk 15 14,jf 16 4 3,jf 17 0 16,jk 18 17,ja 19 6 15 18,jf 20 0 19,jk 21 20,jm 4 21] [4] .ret) (js [jf 23 2 3,jk 24 23,jb 25 .eql .i 24 (ki 2),jm 22 25] [2,3,22] (.cond 22 (js [jf 26 0 2,jk 27 26,jf 28 4 3,jf 29 0 28,jk 30 29,ja 31 6 27 30,jf 32 1 31,jk 33 32,jm 4 33] [4] .ret) .skip))))))) (js [jf 34 3 3,jk 35 34,jm 4 35] [4] .ret))
def G3:List RV:=[.t 4]
def kJ (g:G) (t:TE) (a0:Network) (a1:Scan):Option ByteArray:=
 cl (gc g t a0 (Scan.mk a1.Thing a1.At a1.Kind a1.Place (Trip.mk a1.Trip.Leg a1.Trip.Day))) fun x1=>
 br x1
 (
  br (g.eq a1.Kind 3)
  (
   gd (((0:Int)≤a1.Trip.Leg))<|
   gt a0.Legs (g.nat a1.Trip.Leg) fun x2=>
   some x2.From)
  (
   br (g.eq a1.Kind 2)
   (
    gd (((0:Int)≤a1.Trip.Leg))<|
    gt a0.Legs (g.nat a1.Trip.Leg) fun x3=>
    some x3.To)
   (
    some a1.Place)))
 (
  some str_k0)
theorem wm {g:G} {t:TE} {a0:Network} {a1:Scan} {r:ByteArray} (hg:g=G.real) (ht:t=TE.real) (h:kJ g t a0 a1=some r):Fn Tryz.prog 119 [.g (Network.rs t a0),.g (Scan.rs t a1)] (.c (.r (.v (.string r)))):=by
 obtain⟨X,hX⟩:=aE (.c (.r (.v (.string r))):X);rw[←hX];refine au (rvs:=G3) (j:=(Gq str_k0)) Tryz.func119 rfl (by kernel_rfl) (nb rfl) (by kernel_rfl) ae ?_;intro g2 F hg2 hF;obtain rfl:g2=g:=hg2.unique.trans hg.symm;clear hg2;obtain⟨_,_,_,eq⟩:=g2;obtain⟨_⟩:=t
 obtain⟨a0_Legs,a0_Off,a0_Change⟩:=a0;obtain⟨a1_Thing,a1_At,a1_Kind,a1_Place,⟨a1_Trip_Leg,a1_Trip_Day⟩⟩:=a1;unfold kJ at h;try dsimp only at h
 obtain⟨s_k0,hs_k0⟩:∃s,str_k0=s:=⟨_,rfl⟩;try rw[hs_k0] at h
 rw[hs_k0];cbv;obtain⟨x1,hx1,h⟩:=ac h;try dsimp only at h
 refine ACall.mk _ _ rfl (hF _ _ _ (hC hg ht hx1)) (.inl rfl) (nb rfl) ?_;cbv
 cases hb1:x1
 ·rw[aa hb1] at h;cbv;obtain rfl:=Option.some.inj h;exact ARet.mk trivial hX.symm
 rw[ab hb1] at h;cbv
 cases hb2:(eq a1_Kind 3)
 rotate_left
 ·rw[ab hb2] at h;cbv;obtain⟨hc1,h⟩:=ah h;refine AStep.mk hc1 ?_;cbv;obtain⟨x2,hx2,h⟩:=aB h;obtain⟨x2_From,x2_To,x2_Start,x2_Takes,x2_Days,x2_Room⟩:=x2;try dsimp only at h
  refine AGet.mk _ (ax hg ht hx2) ?_;cbv;obtain rfl:=Option.some.inj h;exact ARet.mk trivial hX.symm
 rw[aa hb2] at h;cbv
 cases hb3:(eq a1_Kind 2)
 ·rw[aa hb3] at h;cbv;obtain rfl:=Option.some.inj h;exact ARet.mk trivial hX.symm
 rw[ab hb3] at h;cbv;obtain⟨hc2,h⟩:=ah h;refine AStep.mk hc2 ?_;cbv;obtain⟨x3,hx3,h⟩:=aB h;obtain⟨x3_From,x3_To,x3_Start,x3_Takes,x3_Days,x3_Room⟩:=x3;try dsimp only at h
 refine AGet.mk _ (ax hg ht hx3) ?_;cbv;obtain rfl:=Option.some.inj h;exact ARet.mk trivial hX.symm
def ir80:J:=js [jq 2 (.box 0),jq 3 (.box 1),jq 4 (.alloc [.r (.v (.string .empty)),.r (.v (.int .i64 0))])] [2,3,4] (.seq (.block 0 (js [jl 6 3 2,jl 7 6 3,jc 8 62 [6,7],jq 9 (.not 8),jm 5 9] [2,3,4,5] (.cond 5 (js [jq 10 (.bld [.r (.v (.string .empty)),.r (.v (.int .i64 0))] []),jp (.st 2 4 10)] [4] .ret) (js [jf 12 2 3,jk 13 12,jb 14 .eql .i 13 (ki 3),jm 11 14] [2,3,4,11] (.cond 11 (.seq (.reg (some [[],[0],[],[2],[2,3],[0,1,2,3,4],[0,1,2,3,4,5],[0,1,2,3,4,5,6],[],[],[9],[8,9,10],[0,1,2,3,4,5,6,7,8,9,10,11],[0,1,2,3,4,5,6,7,8,9,10,11,12]]) [jf 15 0 2,jk 16 15,jf 17 4 3,jf 18 0 17,jk 19 18,ja 20 6 16 19,jf 21 1 20,jk 22 21,jl 23 3 2,jf 24 4 3,jl 25 2 24,jc 26 86 [23,25],jq 27 (.bld [.r (.v (.string .empty)),.r (.v (.int .i64 0))] [(0,1,22),(1,1,26)]),jp (.st 2 4 27)] [4]) .ret) .skip))))) (.seq (.reg (some [[],[],[0,1],[],[3],[0,1,2,3,4],[0,1,2,3,4,5]]) [jl 28 3 2,jl 29 6 3,jc 30 119 [28,29],jf 31 1 3,jk 32 31,jq 33 (.bld [.r (.v (.string .empty)),.r (.v (.int .i64 0))] [(0,1,30),(1,1,32)]),jp (.st 2 4 33)] [4]) .ret))
def rv80:List RV:=[.c 4 true 2]
def aM (g:G) (t:TE) (a0:Network) (a1:Scan):Option Spot:=
 cl (gc g t a0 (Scan.mk a1.Thing a1.At a1.Kind a1.Place (Trip.mk a1.Trip.Leg a1.Trip.Day))) fun x1=>
 br x1
 (
  br (g.eq a1.Kind 3)
  (
   gd (((0:Int)≤a1.Trip.Leg))<|
   gt a0.Legs (g.nat a1.Trip.Leg) fun x2=>
   cl (bw g t a0 (Trip.mk a1.Trip.Leg a1.Trip.Day)) fun x3=>
   some (Spot.mk x2.To x3))
  (
   cl (kJ g t a0 (Scan.mk a1.Thing a1.At a1.Kind a1.Place (Trip.mk a1.Trip.Leg a1.Trip.Day))) fun x4=>
   some (Spot.mk x4 a1.At)))
 (
  some (Spot.mk ByteArray.empty 0))
theorem aT {g:G} {t:TE} {a0:Network} {a1:Scan} {r:Spot} (hg:g=G.real) (ht:t=TE.real) (h:aM g t a0 a1=some r):Fn Tryz.prog 80 [.g (Network.rs t a0),.g (Scan.rs t a1)] (.g (Spot.ds t r)):=by
 obtain⟨X,hX⟩:=aE (.g (Spot.ds t r):X);rw[←hX];refine au (rvs:=rv80) (j:=ir80) Tryz.func80 rfl (by kernel_rfl) (nb rfl) (by kernel_rfl) ae ?_;intro g2 F hg2 hF;obtain rfl:g2=g:=hg2.unique.trans hg.symm;clear hg2;obtain⟨_,_,_,eq⟩:=g2;obtain⟨_⟩:=t
 obtain⟨a0_Legs,a0_Off,a0_Change⟩:=a0;obtain⟨a1_Thing,a1_At,a1_Kind,a1_Place,⟨a1_Trip_Leg,a1_Trip_Day⟩⟩:=a1;unfold aM at h;try dsimp only at h
 cbv;obtain⟨x1,hx1,h⟩:=ac h;try dsimp only at h
 refine ACall.mk _ _ rfl (hF _ _ _ (hC hg ht hx1)) (.inl rfl) (nb rfl) ?_;cbv
 cases hb1:x1
 ·rw[aa hb1] at h;cbv;obtain rfl:=Option.some.inj h;exact ARet.mk trivial hX.symm
 rw[ab hb1] at h;cbv
 cases hb2:(eq a1_Kind 3)
 ·rw[aa hb2] at h;cbv;obtain⟨x4,hx4,h⟩:=ac h;try dsimp only at h
  refine ACall.mk _ _ rfl (hF _ _ _ (wm hg ht hx4)) (.inl rfl) (nb rfl) ?_;cbv;obtain rfl:=Option.some.inj h;exact ARet.mk trivial hX.symm
 rw[ab hb2] at h;cbv;obtain⟨hc1,h⟩:=ah h;refine AStep.mk hc1 ?_;cbv;obtain⟨x2,hx2,h⟩:=aB h;obtain⟨x2_From,x2_To,x2_Start,x2_Takes,x2_Days,x2_Room⟩:=x2;try dsimp only at h
 refine AGet.mk _ (ax hg ht hx2) ?_;cbv;obtain⟨x3,hx3,h⟩:=ac h;try dsimp only at h
 refine ACall.mk _ _ rfl (hF _ _ _ (bu hg ht hx3)) (.inl rfl) (nb rfl) ?_;cbv;obtain rfl:=Option.some.inj h;exact ARet.mk trivial hX.symm
def Hz:J:=js [jq 2 (.box 0),jq 3 (.box 1),jq 4 (.alloc [.r (.v (.string .empty)),.r (.v (.int .i64 0))])] [2,3,4] (.seq (.block 0 (js [jl 6 3 2,jl 7 6 3,jc 8 62 [6,7],jq 9 (.not 8),jm 5 9] [2,3,4,5] (.cond 5 (js [jq 10 (.bld [.r (.v (.string .empty)),.r (.v (.int .i64 0))] []),jp (.st 2 4 10)] [4] .ret) (js [jf 12 2 3,jk 13 12,jb 14 .eql .i 13 (ki 3),jm 15 14,jv 16 15 (.fa 2 3),jv 17 15 (.ld false 1 16),jv 18 15 (.bin .eql .i 17 (ki 2)),jq 19 (.pick 15 kt 18),jm 11 19] [2,3,4,11] (.cond 11 (.seq (.reg (some [[],[0],[],[2],[2,3],[0,1,2,3,4],[0,1,2,3,4,5],[0,1,2,3,4,5,6],[],[],[9],[8,9,10],[0,1,2,3,4,5,6,7,8,9,10,11],[0,1,2,3,4,5,6,7,8,9,10,11,12]]) [jf 20 0 2,jk 21 20,jf 22 4 3,jf 23 0 22,jk 24 23,ja 25 6 21 24,jf 26 0 25,jk 27 26,jl 28 3 2,jf 29 4 3,jl 30 2 29,jc 31 85 [28,30],jq 32 (.bld [.r (.v (.string .empty)),.r (.v (.int .i64 0))] [(0,1,27),(1,1,31)]),jp (.st 2 4 32)] [4]) .ret) .skip))))) (js [jf 33 3 3,jk 34 33,jf 35 1 3,jk 36 35,jq 37 (.bld [.r (.v (.string .empty)),.r (.v (.int .i64 0))] [(0,1,34),(1,1,36)]),jp (.st 2 4 37)] [4] .ret))
def H5:List RV:=[.c 4 true 2]
def ea (g:G) (t:TE) (a0:Network) (a1:Scan):Option Spot:=
 cl (gc g t a0 (Scan.mk a1.Thing a1.At a1.Kind a1.Place (Trip.mk a1.Trip.Leg a1.Trip.Day))) fun x1=>
 br x1
 (
  br (g.eq a1.Kind 3)
  (
   gd (((0:Int)≤a1.Trip.Leg))<|
   gt a0.Legs (g.nat a1.Trip.Leg) fun x2=>
   cl (aU g t a0 (Trip.mk a1.Trip.Leg a1.Trip.Day)) fun x3=>
   some (Spot.mk x2.From x3))
  (
   br (g.eq a1.Kind 2)
   (
    gd (((0:Int)≤a1.Trip.Leg))<|
    gt a0.Legs (g.nat a1.Trip.Leg) fun x4=>
    cl (aU g t a0 (Trip.mk a1.Trip.Leg a1.Trip.Day)) fun x5=>
    some (Spot.mk x4.From x5))
   (
    some (Spot.mk a1.Place a1.At))))
 (
  some (Spot.mk ByteArray.empty 0))
theorem gT {g:G} {t:TE} {a0:Network} {a1:Scan} {r:Spot} (hg:g=G.real) (ht:t=TE.real) (h:ea g t a0 a1=some r):Fn Tryz.prog 115 [.g (Network.rs t a0),.g (Scan.rs t a1)] (.g (Spot.ds t r)):=by
 obtain⟨X,hX⟩:=aE (.g (Spot.ds t r):X);rw[←hX];refine au (rvs:=H5) (j:=Hz) Tryz.func115 rfl (by kernel_rfl) (nb rfl) (by kernel_rfl) ae ?_;intro g2 F hg2 hF;obtain rfl:g2=g:=hg2.unique.trans hg.symm;clear hg2;obtain⟨_,_,_,eq⟩:=g2;obtain⟨_⟩:=t
 obtain⟨a0_Legs,a0_Off,a0_Change⟩:=a0;obtain⟨a1_Thing,a1_At,a1_Kind,a1_Place,⟨a1_Trip_Leg,a1_Trip_Day⟩⟩:=a1;unfold ea at h;try dsimp only at h
 cbv;obtain⟨x1,hx1,h⟩:=ac h;try dsimp only at h
 refine ACall.mk _ _ rfl (hF _ _ _ (hC hg ht hx1)) (.inl rfl) (nb rfl) ?_;cbv
 cases hb1:x1
 ·rw[aa hb1] at h;cbv;obtain rfl:=Option.some.inj h;exact ARet.mk trivial hX.symm
 rw[ab hb1] at h;cbv
 cases hb2:(eq a1_Kind 3)
 rotate_left
 ·rw[ab hb2] at h;cbv;iterate 3 try(rw[hb2];cbv)
  obtain⟨hc1,h⟩:=ah h;refine AStep.mk hc1 ?_;cbv;obtain⟨x2,hx2,h⟩:=aB h;obtain⟨x2_From,x2_To,x2_Start,x2_Takes,x2_Days,x2_Room⟩:=x2;try dsimp only at h
  refine AGet.mk _ (ax hg ht hx2) ?_;cbv;obtain⟨x3,hx3,h⟩:=ac h;try dsimp only at h
  refine ACall.mk _ _ rfl (hF _ _ _ (ba hg ht hx3)) (.inl rfl) (nb rfl) ?_;cbv;obtain rfl:=Option.some.inj h;exact ARet.mk trivial hX.symm
 rw[aa hb2] at h;cbv;iterate 3 try(rw[hb2];cbv)
 cases hb3:(eq a1_Kind 2)
 ·rw[aa hb3] at h;cbv;obtain rfl:=Option.some.inj h;exact ARet.mk trivial hX.symm
 rw[ab hb3] at h;cbv;obtain⟨hc2,h⟩:=ah h;refine AStep.mk hc2 ?_;cbv;obtain⟨x4,hx4,h⟩:=aB h;obtain⟨x4_From,x4_To,x4_Start,x4_Takes,x4_Days,x4_Room⟩:=x4;try dsimp only at h
 refine AGet.mk _ (ax hg ht hx4) ?_;cbv;obtain⟨x5,hx5,h⟩:=ac h;try dsimp only at h
 refine ACall.mk _ _ rfl (hF _ _ _ (ba hg ht hx5)) (.inl rfl) (nb rfl) ?_;cbv;obtain rfl:=Option.some.inj h;exact ARet.mk trivial hX.symm
def ir74:J:=js [jq 3 (.box 0),jq 4 (.box 1),jq 5 (.box 2),jm 6 kf] [3,4,5] (.seq (js [jl 9 3 3,jl 10 6 4,jc 11 62 [9,10],jq 12 (.not 11),jm 13 12,jv 14 13 (.ld true 3 3),jv 15 13 (.ld true 6 5),jv 16 13 (.call 62 true [14,15]),jv 17 13 (.not 16),jq 18 (.pick 13 kt 17),jm 19 18,jv 20 19 (.fa 0 4),jv 21 19 (.ld false 1 20),jv 22 19 (.fa 0 5),jv 23 19 (.ld false 1 22),jv 24 19 (.bin .neq .i 21 23),jq 25 (.pick 19 kt 24),jm 26 25,jv 27 26 (.fa 2 4),jv 28 26 (.ld false 1 27),jv 29 26 (.bin .eql .i 28 (ki 4)),jq 30 (.pick 26 kt 29),jm 31 30,jv 32 31 (.ld true 6 4),jv 33 31 (.ld true 6 5),jv 34 31 (.call 63 true [32,33]),jv 35 31 (.bin .geq .i 34 (ki 0)),jq 36 (.pick 31 kt 35)] [3,4,5,36] (.cond 36 (js [jm 6 kf] [6] .ret) .skip)) (.seq (js [jf 37 2 4,jk 38 37,jb 39 .eql .i 38 (ki 3),jm 40 39,ju 41 40 (.fa 2 5),ju 42 40 (.ld false 1 41),ju 43 40 (.bin .eql .i 42 (ki 2)),jq 44 (.pick 40 43 kf),jm 45 44,ju 46 45 (.fa 4 4),ju 47 45 (.ld true 2 46),ju 48 45 (.fa 4 5),ju 49 45 (.ld true 2 48),ju 50 45 (.eqs false [.i,.i] 47 49),jq 51 (.pick 45 50 kf)] [3,4,5,51] (.cond 51 (js [jm 6 kt] [6] .ret) .skip)) (js [jl 52 3 3,jl 53 6 5,jc 54 115 [52,53],jq 7 (.alloc [.r (.v (.string .empty)),.r (.v (.int .i64 0))]),jp (.st 2 7 54)] [3,4,7] (.seq (.reg (some [[],[],[],[1,2],[],[4],[0,1,2,3,4,5],[0,1,2,3,4,5,6]]) [jl 55 3 3,jl 56 3 3,jl 57 6 4,jc 58 80 [56,57],jf 59 0 7,jk 60 59,jc 61 79 [55,58,60],jm 8 61] [7,8]) (js [jm 62 8,jb 63 .geq .i 62 (ki 0),jm 64 63,ju 65 64 (.mv 8),ju 66 64 (.fa 1 7),ju 67 64 (.ld false 1 66),ju 68 64 (.bin .leq .i 65 67),jq 69 (.pick 64 68 kf),jm 6 69] [6] .ret)))))
def rv74:List RV:=[.t 6]
def iG (g:G) (t:TE) (a0:Network) (a1:Scan) (a2:Scan):Option Bool:=
 cl (gc g t a0 (Scan.mk a1.Thing a1.At a1.Kind a1.Place (Trip.mk a1.Trip.Leg a1.Trip.Day))) fun x1=>
 br x1
 (
  cl (gc g t a0 (Scan.mk a2.Thing a2.At a2.Kind a2.Place (Trip.mk a2.Trip.Leg a2.Trip.Day))) fun x2=>
  br x2
  (
   br (g.eq a1.Thing a2.Thing)
   (
    br (g.eq a1.Kind 4)
    (
     some false)
    (
     cl (dD g t (Scan.mk a1.Thing a1.At a1.Kind a1.Place (Trip.mk a1.Trip.Leg a1.Trip.Day)) (Scan.mk a2.Thing a2.At a2.Kind a2.Place (Trip.mk a2.Trip.Leg a2.Trip.Day))) fun x3=>
     br (g.le 0 x3)
     (
      some false)
     (
      br (g.eq a1.Kind 3)
      (
       br (g.eq a2.Kind 2)
       (
        br (g.all [(g.eq a1.Trip.Leg a2.Trip.Leg),(g.eq a1.Trip.Day a2.Trip.Day)])
        (
         some true)
        (
         cl (ea g t a0 (Scan.mk a2.Thing a2.At a2.Kind a2.Place (Trip.mk a2.Trip.Leg a2.Trip.Day))) fun x4=>
         cl (aM g t a0 (Scan.mk a1.Thing a1.At a1.Kind a1.Place (Trip.mk a1.Trip.Leg a1.Trip.Day))) fun x5=>
         cl (bo g t a0 x5 x4.Place) fun x6=>
         br (g.le 0 x6)
         (
          some (g.le x6 x4.At))
         (
          some false)))
       (
        cl (ea g t a0 (Scan.mk a2.Thing a2.At a2.Kind a2.Place (Trip.mk a2.Trip.Leg a2.Trip.Day))) fun x7=>
        cl (aM g t a0 (Scan.mk a1.Thing a1.At a1.Kind a1.Place (Trip.mk a1.Trip.Leg a1.Trip.Day))) fun x8=>
        cl (bo g t a0 x8 x7.Place) fun x9=>
        br (g.le 0 x9)
        (
         some (g.le x9 x7.At))
        (
         some false)))
      (
       cl (ea g t a0 (Scan.mk a2.Thing a2.At a2.Kind a2.Place (Trip.mk a2.Trip.Leg a2.Trip.Day))) fun x10=>
       cl (aM g t a0 (Scan.mk a1.Thing a1.At a1.Kind a1.Place (Trip.mk a1.Trip.Leg a1.Trip.Day))) fun x11=>
       cl (bo g t a0 x11 x10.Place) fun x12=>
       br (g.le 0 x12)
       (
        some (g.le x12 x10.At))
       (
        some false)))))
   (
    some false))
  (
   some false))
 (
  some false)
theorem td {g:G} {t:TE} {a0:Network} {a1:Scan} {a2:Scan} {r:Bool} (hg:g=G.real) (ht:t=TE.real) (h:iG g t a0 a1 a2=some r):Fn Tryz.prog 74 [.g (Network.rs t a0),.g (Scan.rs t a1),.g (Scan.rs t a2)] (.c (.r (.v (.bool r)))):=by
 obtain⟨X,hX⟩:=aE (.c (.r (.v (.bool r))):X);rw[←hX];refine au (rvs:=rv74) (j:=ir74) Tryz.func74 rfl (by kernel_rfl) (nb rfl) (by kernel_rfl) ae ?_;intro g2 F hg2 hF;obtain rfl:g2=g:=hg2.unique.trans hg.symm;clear hg2;obtain⟨_,_,le,eq,_,_,_,_,_,_,_,_,_,_,_,_,_,_,_,_,_,_,_,_,_,_,_,_,_,_,_,_,_,all⟩:=g2;obtain⟨_⟩:=t
 obtain⟨a0_Legs,a0_Off,a0_Change⟩:=a0;obtain⟨a1_Thing,a1_At,a1_Kind,a1_Place,⟨a1_Trip_Leg,a1_Trip_Day⟩⟩:=a1;obtain⟨a2_Thing,a2_At,a2_Kind,a2_Place,⟨a2_Trip_Leg,a2_Trip_Day⟩⟩:=a2;unfold iG at h;try dsimp only at h
 cbv;obtain⟨x1,hx1,h⟩:=ac h;try dsimp only at h
 refine ACall.mk _ _ rfl (hF _ _ _ (hC hg ht hx1)) (.inl rfl) (nb rfl) ?_;cbv
 cases hb1:x1
 ·rw[aa hb1] at h;cbv;iterate 4 try(rw[hb1];cbv)
  obtain rfl:=Option.some.inj h;exact ARet.mk trivial hX.symm
 rw[ab hb1] at h;cbv;iterate 2 try(rw[hb1];cbv)
 obtain⟨x2,hx2,h⟩:=ac h;try dsimp only at h
 refine ACall.mk _ _ rfl (hF _ _ _ (hC hg ht hx2)) (.inl rfl) (nb rfl) ?_;cbv;iterate 2 try(rw[hb1];cbv)
 cases hb2:x2
 ·rw[aa hb2] at h;cbv;iterate 5 try(rw[hb2];cbv)
  obtain rfl:=Option.some.inj h;exact ARet.mk trivial hX.symm
 rw[ab hb2] at h;cbv;iterate 5 try(rw[hb2];cbv)
 cases hb3:(eq a1_Thing a2_Thing)
 ·rw[aa hb3] at h;cbv;iterate 3 try(rw[hb3];cbv)
  obtain rfl:=Option.some.inj h;exact ARet.mk trivial hX.symm
 rw[ab hb3] at h;cbv;iterate 3 try(rw[hb3];cbv)
 cases hb4:(eq a1_Kind 4)
 rotate_left
 ·rw[ab hb4] at h;cbv;iterate 4 try(rw[hb4];cbv)
  obtain rfl:=Option.some.inj h;exact ARet.mk trivial hX.symm
 rw[aa hb4] at h;cbv;iterate 2 try(rw[hb4];cbv)
 obtain⟨x3,hx3,h⟩:=ac h;try dsimp only at h
 refine ACall.mk _ _ rfl (hF _ _ _ (kC hg ht hx3)) (.inl rfl) (nb rfl) ?_;cbv;iterate 2 try(rw[hb4];cbv)
 cases hb5:(le 0 x3)
 rotate_left
 ·rw[ab hb5] at h;cbv;obtain rfl:=Option.some.inj h;exact ARet.mk trivial hX.symm
 rw[aa hb5] at h;cbv
 cases hb6:(eq a1_Kind 3)
 ·rw[aa hb6] at h;cbv;iterate 3 try(rw[hb6];cbv)
  obtain⟨x10,hx10,h⟩:=ac h;obtain⟨x10_Place,x10_At⟩:=x10;try dsimp only at h
  refine ACall.mk _ _ rfl (hF _ _ _ (gT hg ht hx10)) (.inl rfl) (nb rfl) ?_;cbv;obtain⟨x11,hx11,h⟩:=ac h;obtain⟨x11_Place,x11_At⟩:=x11;try dsimp only at h
  refine ACall.mk _ _ rfl (hF _ _ _ (aT hg ht hx11)) (.inl rfl) (nb rfl) ?_;cbv;obtain⟨x12,hx12,h⟩:=ac h;try dsimp only at h
  refine ACall.mk _ _ rfl (hF _ _ _ (bh hg ht hx12)) (.inl rfl) (nb rfl) ?_;cbv
  cases hb11:(le 0 x12)
  rotate_left
  ·rw[ab hb11] at h;cbv;iterate 4 try(rw[hb11];cbv)
   obtain rfl:=Option.some.inj h;exact ARet.mk trivial hX.symm
  rw[aa hb11] at h;cbv;iterate 4 try(rw[hb11];cbv)
  obtain rfl:=Option.some.inj h;exact ARet.mk trivial hX.symm
 rw[ab hb6] at h;cbv;iterate 3 try(rw[hb6];cbv)
 cases hb7:(eq a2_Kind 2)
 ·rw[aa hb7] at h;cbv;iterate 5 try(rw[hb7];cbv)
  obtain⟨x7,hx7,h⟩:=ac h;obtain⟨x7_Place,x7_At⟩:=x7;try dsimp only at h
  refine ACall.mk _ _ rfl (hF _ _ _ (gT hg ht hx7)) (.inl rfl) (nb rfl) ?_;cbv;obtain⟨x8,hx8,h⟩:=ac h;obtain⟨x8_Place,x8_At⟩:=x8;try dsimp only at h
  refine ACall.mk _ _ rfl (hF _ _ _ (aT hg ht hx8)) (.inl rfl) (nb rfl) ?_;cbv;obtain⟨x9,hx9,h⟩:=ac h;try dsimp only at h
  refine ACall.mk _ _ rfl (hF _ _ _ (bh hg ht hx9)) (.inl rfl) (nb rfl) ?_;cbv
  cases hb10:(le 0 x9)
  rotate_left
  ·rw[ab hb10] at h;cbv;iterate 4 try(rw[hb10];cbv)
   obtain rfl:=Option.some.inj h;exact ARet.mk trivial hX.symm
  rw[aa hb10] at h;cbv;iterate 4 try(rw[hb10];cbv)
  obtain rfl:=Option.some.inj h;exact ARet.mk trivial hX.symm
 rw[ab hb7] at h;cbv;iterate 5 try(rw[hb7];cbv)
 cases hb8:(all [(eq a1_Trip_Leg a2_Trip_Leg),(eq a1_Trip_Day a2_Trip_Day)])
 rotate_left
 ·rw[ab hb8] at h;cbv;obtain rfl:=Option.some.inj h;exact ARet.mk trivial hX.symm
 rw[aa hb8] at h;cbv;obtain⟨x4,hx4,h⟩:=ac h;obtain⟨x4_Place,x4_At⟩:=x4;try dsimp only at h
 refine ACall.mk _ _ rfl (hF _ _ _ (gT hg ht hx4)) (.inl rfl) (nb rfl) ?_;cbv;obtain⟨x5,hx5,h⟩:=ac h;obtain⟨x5_Place,x5_At⟩:=x5;try dsimp only at h
 refine ACall.mk _ _ rfl (hF _ _ _ (aT hg ht hx5)) (.inl rfl) (nb rfl) ?_;cbv;obtain⟨x6,hx6,h⟩:=ac h;try dsimp only at h
 refine ACall.mk _ _ rfl (hF _ _ _ (bh hg ht hx6)) (.inl rfl) (nb rfl) ?_;cbv
 cases hb9:(le 0 x6)
 rotate_left
 ·rw[ab hb9] at h;cbv;iterate 4 try(rw[hb9];cbv)
  obtain rfl:=Option.some.inj h;exact ARet.mk trivial hX.symm
 rw[aa hb9] at h;cbv;iterate 4 try(rw[hb9];cbv)
 obtain rfl:=Option.some.inj h;exact ARet.mk trivial hX.symm
def ir33:J:=js [jq 3 (.box 0),jq 6 (.mv (.k (.c (.n 6))))] [1,2,3] (js [jq 10 (.bsl 6 []),jm 7 10] [1,2,3,7] (js [jl 11 3 3,jm 12 1,jm 13 2,jc 14 26 [11,12,13],jm 8 14] [3,7,8] (.seq (js [jm 9 (ki 0)] [3,7,8,9] (.bl 0 (.seq (js [jm 15 9,jm 16 8,jq 17 (.len false 16),jb 18 .lss .i 15 17] [3,7,8,9,18] (.cond 18 .skip (.exit 0))) (.seq (.block 1 (.seq (.reg (some [[],[0],[0,1],[0,1,2],[0,1,2,3],[0,1,2,3],[0,1,2,3],[0,1,2,3,6],[0,1,2,3,6,7],[0,1,2,3,5,6,7,8],[0,1,2,3,5,6,7,8,9],[0,1,2,3],[0,1,2,3],[0,1,2,3,11,12],[0,1,2,3,11,12,13],[0,1,2,3,4,5,6,7,8,9,10,11,12,13,14],[0,1,2,3,4,5,6,7,8,9,10,11,12,13,14,15]]) [jm 21 7,jq 22 (.len false 21),jb 23 .eql .i 22 (ki 0),jm 24 23,jv 25 24 (.ld true 3 3),jv 26 24 (.mv 7),jv 27 24 (.mv 7),jv 28 24 (.len false 27),jv 29 24 (.bin .sub .i 28 (ki 1)),jv 30 24 (.ia 6 26 29),jv 31 24 (.ld true 6 30),jv 32 24 (.mv 8),jv 33 24 (.mv 9),jv 34 24 (.ia 6 32 33),jv 35 24 (.ld true 6 34),jv 36 24 (.call 74 true [25,31,35]),jq 37 (.pick 24 kt 36)] [3,7,8,9,37]) (.cond 37 (.reg none [jm 38 7,jm 39 8,jm 40 9,ja 41 6 39 40,jl 42 6 41,jq 43 (.bsl 6 [42]),jq 44 (.app 6 56 true 38 43),jm 7 44] [3,7,8,9]) .skip))) (.reg none [jm 19 9,jb 20 .add .i 19 (ki 1),jm 9 20] [3,7,8,9]))))) (js [jm 45 7,jm 6 45] [6] .ret))))
def rv33:List RV:=[.t 6]
def cQ (g:G) (t:TE) (a0:Network) (x1:List Scan):Nat→Int→List Scan→Option (List Scan)
 |0,v1,w1=>
  some w1
 |n1+1,v1,w1=>
  br (g.eq (g.int (g.dlen (t.d_Scan w1))) 0)
  (
   gt x1 (g.nat v1) fun x2=>
   lP ([(Scan.mk x2.Thing x2.At x2.Kind x2.Place (Trip.mk x2.Trip.Leg x2.Trip.Day))]) fun(l2:List Scan)=>
   gd (((w1.length+l2.length)*56≤70368744177664))<|
   lP (w1++l2) fun(l3:List Scan)=>
   cQ g t a0 x1 n1 (g.wrap .i64 (g.add v1 1)) l3)
  (
   gd (((0:Int)≤(g.wrap .i64 (g.sub (g.int (g.dlen (t.d_Scan w1))) 1))∧(g.wrap .i64 (g.sub (g.int (g.dlen (t.d_Scan w1))) 1))<(((g.dlen (t.d_Scan w1)):Nat):Int)))<|
   gt w1 (g.nat (g.wrap .i64 (g.sub (g.int (g.dlen (t.d_Scan w1))) 1))) fun x3=>
   gt x1 (g.nat v1) fun x4=>
   cl (iG g t a0 (Scan.mk x3.Thing x3.At x3.Kind x3.Place (Trip.mk x3.Trip.Leg x3.Trip.Day)) (Scan.mk x4.Thing x4.At x4.Kind x4.Place (Trip.mk x4.Trip.Leg x4.Trip.Day))) fun x5=>
   br x5
   (
    lP ([(Scan.mk x4.Thing x4.At x4.Kind x4.Place (Trip.mk x4.Trip.Leg x4.Trip.Day))]) fun(l4:List Scan)=>
    gd (((w1.length+l4.length)*56≤70368744177664))<|
    lP (w1++l4) fun(l5:List Scan)=>
    cQ g t a0 x1 n1 (g.wrap .i64 (g.add v1 1)) l5)
   (
    cQ g t a0 x1 n1 (g.wrap .i64 (g.add v1 1)) w1))
def jt (g:G) (t:TE) (a0:Network) (a1:List Scan) (a2:Int):Option (List Scan):=
 lP ([]) fun(l1:List Scan)=>
 cl (kI g t a0 a1 a2) fun x1=>
 gd (((g.int (g.dlen (t.d_Scan x1)))≤9223372036854775807))<|
 cl (cQ g t a0 x1 (aq 0 (g.int (g.dlen (t.d_Scan x1)))) 0 l1) fun y1=>
 some y1
theorem qk {g:G} {t:TE} {a0:Network} {a1:List Scan} {a2:Int} {r:List Scan} (hg:g=G.real) (ht:t=TE.real) (h:jt g t a0 a1 a2=some r):Fn Tryz.prog 33 [.g (Network.rs t a0),.c (.s 6 (t.r_Scan a1)),.c (.v (.int .i64 a2))] (.c (.o 6 (t.d_Scan r))):=by
 obtain⟨X,hX⟩:=aE (.c (.o 6 (t.d_Scan r)):X);rw[←hX];refine au (rvs:=rv33) (j:=ir33) Tryz.func33 rfl (by kernel_rfl) (nb rfl) (by kernel_rfl) ae ?_;intro g2 F hg2 hF;obtain rfl:g2=g:=hg2.unique.trans hg.symm;clear hg2;obtain⟨wrap,lt,_,eq,_,_,_,_,_,_,_,_,int,add,_,_,_,_,_,_,_,_,_,_,dlen⟩:=g2;obtain⟨r_Leg,_,r_I64,_,_,d_Scan⟩:=t
 obtain⟨a0_Legs,a0_Off,a0_Change⟩:=a0;unfold jt at h;try dsimp only at h
 cbv;obtain⟨l1,hl1,h⟩:=ak h;try dsimp only at h
 refine ANew.mk (d_Scan l1) (dlen (d_Scan l1)) (by rw[←hl1];exact bX hg ht []) (by rw[←hl1];exact bn hg ht []) ?_;cbv;obtain⟨x1,hx1,h⟩:=ac h;try dsimp only at h
 refine ACall.mk _ _ rfl (hF _ _ _ (v9 hg ht hx1)) (.inl rfl) (nb rfl) ?_;cbv;obtain⟨hB1,h⟩:=ah h;obtain⟨o1,ho1,h⟩:=ac h;try dsimp only at h
 try rw[hg] at ho1
 try rw[ht] at ho1
 refine ABL.mk {p:Nat×Int×List Scan//p.1=aq p.2.1 (int (dlen (d_Scan x1)))∧0≤p.2.1∧cQ G.real TE.real (Network.mk a0_Legs a0_Off a0_Change) x1 p.1 p.2.1 p.2.2=some o1} (fun⟨⟨n1,v1,w1⟩,_⟩=>({sl:=[(3,.c (.p 0 3 0 0)),(7,.c (.f 1 6 0 (dlen (d_Scan w1)))),(8,.c (.f 2 6 0 (dlen (d_Scan x1)))),(9,.c (.r (.v (.int .i64 v1))))],tab:=[(0,some (.foc 3 [] [.r (.s 6 (r_Leg a0_Legs)),.r (.s 1 (r_I64 a0_Off)),.r (.v (.int .i64 a0_Change))] [])),(1,some (.arr 6 (d_Scan w1))),(2,some (.arr 6 (d_Scan x1)))]}:St)) 3 (fun p=>p.1.1) ⟨(aq 0 (int (dlen (d_Scan x1))),0,l1),rfl,Int.le_refl _,ho1⟩ (List Scan) (fun y1=>({sl:=[(7,.c (.f 0 6 0 (dlen (d_Scan y1))))],tab:=[(0,some (.arr 6 (d_Scan y1)))]}:St)) 1 (fun y=>o1=y) ?_ ?_ ?_
 ·refine Wk.of [(0,some 0),(1,some 32),(2,some 112)] rfl rfl ?_ ?_
  ·cbv;all_goals exact⟨⟨_,rfl,rfl⟩,⟨_,rfl,rfl⟩,⟨_,rfl,rfl⟩,⟨_,rfl,rfl⟩,trivial⟩
  cbv;all_goals exact⟨⟨_,rfl,_,rfl,rfl,rfl,rfl,trivial⟩,⟨_,rfl,rfl⟩,⟨_,rfl,rfl⟩,trivial⟩
 ·rintro⟨⟨n1,v1,w1⟩,hn1,hi1,h_1⟩ hq1;try dsimp only at hn1 hi1 h_1
  clear hq1;cbv;rcases n1 with _|n1
  ·have hb1:lt v1 (int (dlen (d_Scan x1)))=false:=be hg hn1;rw[cQ] at h_1;try rw[←hg] at h_1
   try rw[←ht] at h_1
   try dsimp only at h_1
   rw[hb1];cbv;refine⟨w1,Wk.of [(0,some 1)] rfl rfl ?_ ?_,(Option.some.inj h_1).symm⟩
   ·cbv;all_goals exact⟨⟨_,rfl,rfl⟩,trivial⟩
   cbv;all_goals exact⟨⟨_,rfl,rfl⟩,trivial⟩
  have hb1:lt v1 (int (dlen (d_Scan x1)))=true:=bF hg hn1;have hl1:=dM hn1;have hs1:=cF hg hn1 hi1 hB1 (by decide);rw[cQ] at h_1;try rw[←hg] at h_1
  try rw[←ht] at h_1
  try dsimp only at h_1
  rw[hb1];cbv
  cases hb2:(eq (int (dlen (d_Scan w1))) 0)
  rotate_left
  ·rw[ab hb2] at h_1;cbv;iterate 12 try(rw[hb2];cbv)
   refine AStep.mk (dB hg hi1 hl1) ?_;cbv;obtain⟨x2,hx2,h_1⟩:=aB h_1;obtain⟨x2_Thing,x2_At,x2_Kind,x2_Place,⟨x2_Trip_Leg,x2_Trip_Day⟩⟩:=x2;try dsimp only at h_1
   refine AGet.mk _ (aG hg ht hx2) ?_;cbv;obtain⟨l2,hl2,h_1⟩:=ak h_1;try dsimp only at h_1
   refine ANew.mk (d_Scan l2) (dlen (d_Scan l2)) (by rw[←hl2];exact bX hg ht [(Scan.mk x2_Thing x2_At x2_Kind x2_Place (Trip.mk x2_Trip_Leg x2_Trip_Day))]) (by rw[←hl2];exact bn hg ht [(Scan.mk x2_Thing x2_At x2_Kind x2_Place (Trip.mk x2_Trip_Leg x2_Trip_Day))]) ?_;cbv;obtain⟨hc1,h_1⟩:=ah h_1;refine AStep.mk ⟨⟨rfl,(aj hg ht _)⟩,(bq hg ht (aj hg ht _) rfl hc1)⟩ ?_;cbv;obtain⟨l3,hl3,h_1⟩:=ak h_1;try dsimp only at h_1
   refine ANew.mk (d_Scan l3) (dlen (d_Scan l3)) (by rw[←hl3];exact dF hg ht (aj hg ht _) rfl) (by rw[←hl3];exact cG hg ht (aj hg ht _) rfl) ?_;cbv;try rw[hg] at h_1
   try rw[ht] at h_1
   refine⟨⟨(n1,(wrap .i64 (add v1 1)),l3),hs1.1,hs1.2,h_1⟩,Wk.of [(0,some 0),(1,some 435),(2,some 2)] rfl rfl ?_ ?_,Nat.lt_succ_self _⟩
   ·cbv;all_goals exact⟨⟨_,rfl,rfl⟩,⟨_,rfl,rfl⟩,⟨_,rfl,rfl⟩,⟨_,rfl,rfl⟩,trivial⟩
   cbv;all_goals exact⟨⟨_,rfl,_,rfl,rfl,rfl,rfl,trivial⟩,⟨_,rfl,rfl⟩,⟨_,rfl,rfl⟩,trivial⟩
  rw[aa hb2] at h_1;cbv;iterate 5 try(rw[hb2];cbv)
  obtain⟨hc2,h_1⟩:=ah h_1;refine AStep.mk hc2 ?_;cbv;try(rw[hb2];cbv)
  obtain⟨x3,hx3,h_1⟩:=aB h_1;obtain⟨x3_Thing,x3_At,x3_Kind,x3_Place,⟨x3_Trip_Leg,x3_Trip_Day⟩⟩:=x3;try dsimp only at h_1
  refine AGet.mk _ (aG hg ht hx3) ?_;cbv;iterate 3 try(rw[hb2];cbv)
  refine AStep.mk (dB hg hi1 hl1) ?_;cbv;try(rw[hb2];cbv)
  obtain⟨x4,hx4,h_1⟩:=aB h_1;obtain⟨x4_Thing,x4_At,x4_Kind,x4_Place,⟨x4_Trip_Leg,x4_Trip_Day⟩⟩:=x4;try dsimp only at h_1
  refine AGet.mk _ (aG hg ht hx4) ?_;cbv;try(rw[hb2];cbv)
  obtain⟨x5,hx5,h_1⟩:=ac h_1;try dsimp only at h_1
  refine ACall.mk _ _ rfl (hF _ _ _ (td hg ht hx5)) (.inl rfl) (nb rfl) ?_;cbv;try(rw[hb2];cbv)
  cases hb3:x5
  ·rw[aa hb3] at h_1;cbv;try rw[hg] at h_1
   try rw[ht] at h_1
   refine⟨⟨(n1,(wrap .i64 (add v1 1)),w1),hs1.1,hs1.2,h_1⟩,Wk.of [(0,some 0),(1,some 1),(2,some 2)] rfl rfl ?_ ?_,Nat.lt_succ_self _⟩
   ·cbv;all_goals exact⟨⟨_,rfl,rfl⟩,⟨_,rfl,rfl⟩,⟨_,rfl,rfl⟩,⟨_,rfl,rfl⟩,trivial⟩
   cbv;all_goals exact⟨⟨_,rfl,_,rfl,rfl,rfl,rfl,trivial⟩,⟨_,rfl,rfl⟩,⟨_,rfl,rfl⟩,trivial⟩
  rw[ab hb3] at h_1;cbv;refine AStep.mk (dB hg hi1 hl1) ?_;cbv;refine AGet.mk _ (aG hg ht hx4) ?_;cbv;obtain⟨l4,hl4,h_1⟩:=ak h_1;try dsimp only at h_1
  refine ANew.mk (d_Scan l4) (dlen (d_Scan l4)) (by rw[←hl4];exact bX hg ht [(Scan.mk x4_Thing x4_At x4_Kind x4_Place (Trip.mk x4_Trip_Leg x4_Trip_Day))]) (by rw[←hl4];exact bn hg ht [(Scan.mk x4_Thing x4_At x4_Kind x4_Place (Trip.mk x4_Trip_Leg x4_Trip_Day))]) ?_;cbv;obtain⟨hc3,h_1⟩:=ah h_1;refine AStep.mk ⟨⟨rfl,(aj hg ht _)⟩,(bq hg ht (aj hg ht _) rfl hc3)⟩ ?_;cbv;obtain⟨l5,hl5,h_1⟩:=ak h_1;try dsimp only at h_1
  refine ANew.mk (d_Scan l5) (dlen (d_Scan l5)) (by rw[←hl5];exact dF hg ht (aj hg ht _) rfl) (by rw[←hl5];exact cG hg ht (aj hg ht _) rfl) ?_;cbv;try rw[hg] at h_1
  try rw[ht] at h_1
  refine⟨⟨(n1,(wrap .i64 (add v1 1)),l5),hs1.1,hs1.2,h_1⟩,Wk.of [(0,some 0),(1,some 435),(2,some 2)] rfl rfl ?_ ?_,Nat.lt_succ_self _⟩
  ·cbv;all_goals exact⟨⟨_,rfl,rfl⟩,⟨_,rfl,rfl⟩,⟨_,rfl,rfl⟩,⟨_,rfl,rfl⟩,trivial⟩
  cbv;all_goals exact⟨⟨_,rfl,_,rfl,rfl,rfl,rfl,trivial⟩,⟨_,rfl,rfl⟩,⟨_,rfl,rfl⟩,trivial⟩
 rintro y1 hy1;replace hy1:=hy1.symm;subst hy1;try dsimp only[lr,lrL,lrp,aP] at h
 cbv;obtain rfl:=Option.some.inj h;exact ARet.mk ⟨rfl,(aj hg ht _)⟩ hX.symm
def ir35:J:=js [jq 4 (.box 0),jq 8 (.alloc [.r (.v (.int .i64 0)),.r (.v (.int .i64 0)),.r (.v (.int .i64 0)),.r (.v (.string .empty)),.r (.v (.int .i64 0)),.r (.v (.int .i64 0))]),jm 9 kf] [1,2,3,4,8] (js [jl 12 3 4,jm 13 1,jm 14 2,jc 15 33 [12,13,14],jm 10 15] [3,8,10] (.seq (js [jm 16 10,jq 17 (.len false 16),jb 18 .sub .i 17 (ki 1),jm 11 18] [3,8,10,11] (.bl 0 (.seq (js [jm 19 11,jb 20 .geq .i 19 (ki 0)] [3,8,10,11,20] (.cond 20 .skip (.exit 0))) (.seq (.block 1 (js [jm 23 10,jm 24 11,ja 25 6 23 24,jf 26 1 25,jk 27 26,jm 28 3,jb 29 .leq .i 27 28] [3,8,10,11,29] (.cond 29 (js [jm 30 10,jm 31 11,ja 32 6 30 31,jl 33 6 32,jp (.st 6 8 33),jm 9 kt] [8,9] .ret) .skip))) (.reg none [jm 21 11,jb 22 .sub .i 21 (ki 1),jm 11 22] [3,8,10,11]))))) (js [jq 34 (.bld [.r (.v (.int .i64 0)),.r (.v (.int .i64 0)),.r (.v (.int .i64 0)),.r (.v (.string .empty)),.r (.v (.int .i64 0)),.r (.v (.int .i64 0))] []),jp (.st 6 8 34),jm 9 kf] [8,9] .ret)))
def rv35:List RV:=[.c 8 true 6,.t 9]
def dt (g:G) (t:TE) (a3:Int) (x1:List Scan):Nat→Int→Option (LR (Scan×Bool) Unit)
 |0,_=>none
 |n1+1,v1=>
  br (g.le 0 v1)
  (
   gd (((0:Int)≤v1∧v1<(((g.dlen (t.d_Scan x1)):Nat):Int)))<|
   gt x1 (g.nat v1) fun x2=>
   br (g.le x2.At a3)
   (
    gd (((0:Int)≤v1∧v1<(((g.dlen (t.d_Scan x1)):Nat):Int)))<|
    some (LR.ret (((Scan.mk x2.Thing x2.At x2.Kind x2.Place (Trip.mk x2.Trip.Leg x2.Trip.Day)),true))))
   (
    dt g t a3 x1 n1 (g.wrap .i64 (g.sub v1 1))))
  (
   some (LR.out ()))
def ip (g:G) (t:TE) (a0:Network) (a1:List Scan) (a2:Int) (a3:Int):Option (Scan×Bool):=
 cl (jt g t a0 a1 a2) fun x1=>
 cl (dt g t a3 x1 1000000000 (g.wrap .i64 (g.sub (g.int (g.dlen (t.d_Scan x1))) 1))) fun o1=>lr o1 fun y1=>
 some (((Scan.mk 0 0 0 ByteArray.empty (Trip.mk 0 0)),false))
theorem oa {g:G} {t:TE} {a0:Network} {a1:List Scan} {a2:Int} {a3:Int} {r:Scan×Bool} (hg:g=G.real) (ht:t=TE.real) (h:ip g t a0 a1 a2 a3=some r):Fn Tryz.prog 35 [.g (Network.rs t a0),.c (.s 6 (t.r_Scan a1)),.c (.v (.int .i64 a2)),.c (.v (.int .i64 a3))] (.u [.g (Scan.ds t r.1),.c (.r (.v (.bool r.2)))]):=by
 obtain⟨X,hX⟩:=aE (.u [.g (Scan.ds t r.1),.c (.r (.v (.bool r.2)))]:X);rw[←hX];refine au (rvs:=rv35) (j:=ir35) Tryz.func35 rfl (by kernel_rfl) (nb rfl) (by kernel_rfl) ae ?_;intro g2 F hg2 hF;obtain rfl:g2=g:=hg2.unique.trans hg.symm;clear hg2;obtain⟨wrap,_,le,_,_,_,_,_,_,_,_,_,int,_,sub,_,_,_,_,_,_,_,_,_,dlen⟩:=g2;obtain⟨_,_,_,_,_,d_Scan⟩:=t
 obtain⟨a0_Legs,a0_Off,a0_Change⟩:=a0;unfold ip at h;try dsimp only at h
 cbv;obtain⟨x1,hx1,h⟩:=ac h;try dsimp only at h
 refine ACall.mk _ _ rfl (hF _ _ _ (qk hg ht hx1)) (.inl rfl) (nb rfl) ?_;cbv;obtain⟨o1,ho1,h⟩:=ac h;try dsimp only at h
 try rw[hg] at ho1
 try rw[ht] at ho1
 refine ABL.mk {p:Nat×Int//dt G.real TE.real a3 x1 p.1 p.2=some o1} (fun⟨⟨n1,v1⟩,_⟩=>({sl:=[(3,.c (.r (.v (.int .i64 a3)))),(8,.c (.p 0 6 0 0)),(10,.c (.f 1 6 0 (dlen (d_Scan x1)))),(11,.c (.r (.v (.int .i64 v1))))],tab:=[(0,some (.foc 6 [] [.r (.v (.int .i64 0)),.r (.v (.int .i64 0)),.r (.v (.int .i64 0)),.r (.v (.string ByteArray.empty)),.r (.v (.int .i64 0)),.r (.v (.int .i64 0))] [])),(1,some (.arr 6 (d_Scan x1)))]}:St)) 2 (fun p=>p.1.1) ⟨(1000000000,(wrap .i64 (sub (int (dlen (d_Scan x1))) 1))),ho1⟩ (Unit) (fun _=>({sl:=[(8,.c (.p 0 6 0 0))],tab:=[(0,some (.foc 6 [] [.r (.v (.int .i64 0)),.r (.v (.int .i64 0)),.r (.v (.int .i64 0)),.r (.v (.string ByteArray.empty)),.r (.v (.int .i64 0)),.r (.v (.int .i64 0))] []))]}:St)) 1 (fun y=>o1=LR.out y) ?_ ?_ ?_
 ·refine Wk.of [(0,some 16),(1,some 96)] rfl rfl ?_ ?_
  ·cbv;all_goals exact⟨⟨_,rfl,rfl⟩,⟨_,rfl,rfl⟩,⟨_,rfl,rfl⟩,⟨_,rfl,rfl⟩,trivial⟩
  cbv;all_goals exact⟨⟨_,rfl,_,rfl,rfl,rfl,rfl,rfl,rfl,rfl,trivial⟩,⟨_,rfl,rfl⟩,trivial⟩
 ·rintro⟨⟨n1,v1⟩,h_1⟩ hq1;try dsimp only at h_1
  clear hq1;rcases n1 with _|n1
  ·rw[dt] at h_1;cases h_1
  rw[dt] at h_1;try rw[←hg] at h_1
  try rw[←ht] at h_1
  try dsimp only at h_1
  cbv
  cases hb1:(le 0 v1)
  ·rw[aa hb1] at h_1;cbv;refine⟨(),Wk.of [(0,some 0)] rfl rfl ?_ ?_,(Option.some.inj h_1).symm⟩
   ·cbv;all_goals exact⟨⟨_,rfl,rfl⟩,trivial⟩
   cbv;all_goals exact⟨⟨_,rfl,_,rfl,rfl,rfl,rfl,rfl,rfl,rfl,trivial⟩,trivial⟩
  rw[ab hb1] at h_1;cbv;obtain⟨hc1,h_1⟩:=ah h_1;refine AStep.mk hc1 ?_;cbv;obtain⟨x2,hx2,h_1⟩:=aB h_1;obtain⟨x2_Thing,x2_At,x2_Kind,x2_Place,⟨x2_Trip_Leg,x2_Trip_Day⟩⟩:=x2;try dsimp only at h_1
  refine AGet.mk _ (aG hg ht hx2) ?_;cbv
  cases hb2:(le x2_At a3)
  rotate_left
  ·rw[ab hb2] at h_1;cbv;obtain⟨hc2,h_1⟩:=ah h_1;refine AStep.mk hc2 ?_;cbv;refine AGet.mk _ (aG hg ht hx2) ?_;cbv;obtain rfl:=Option.some.inj h_1;try dsimp only[lr,lrL,lrp,aP] at h
   obtain rfl:=Option.some.inj h;exact ARet.mk trivial hX.symm
  rw[aa hb2] at h_1;cbv;try rw[hg] at h_1
  try rw[ht] at h_1
  refine⟨⟨(n1,(wrap .i64 (sub v1 1))),h_1⟩,Wk.of [(0,some 0),(1,some 1)] rfl rfl ?_ ?_,Nat.lt_succ_self _⟩
  ·cbv;all_goals exact⟨⟨_,rfl,rfl⟩,⟨_,rfl,rfl⟩,⟨_,rfl,rfl⟩,⟨_,rfl,rfl⟩,trivial⟩
  cbv;all_goals exact⟨⟨_,rfl,_,rfl,rfl,rfl,rfl,rfl,rfl,rfl,trivial⟩,⟨_,rfl,rfl⟩,trivial⟩
 rintro _ hy1;replace hy1:=hy1.symm;subst hy1;try dsimp only[lr,lrL,lrp,aP] at h
 cbv;obtain rfl:=Option.some.inj h;exact ARet.mk trivial hX.symm
def ir38:J:=js [jq 4 (.box 0),jq 8 (.alloc [.r (.v (.int .i64 0)),.r (.v (.int .i64 0)),.r (.v (.int .i64 0)),.r (.v (.string .empty)),.r (.v (.int .i64 0)),.r (.v (.int .i64 0))]),jm 9 kf] [1,2,3,4,8] (js [jl 12 3 4,jm 13 1,jm 14 2,jc 15 33 [12,13,14],jm 10 15] [3,8,10] (.seq (js [jm 11 (ki 0)] [3,8,10,11] (.bl 0 (.seq (js [jm 16 11,jm 17 10,jq 18 (.len false 17),jb 19 .lss .i 16 18] [3,8,10,11,19] (.cond 19 .skip (.exit 0))) (.seq (.block 1 (js [jm 22 10,jm 23 11,ja 24 6 22 23,jf 25 1 24,jk 26 25,jm 27 3,jb 28 .gtr .i 26 27] [3,8,10,11,28] (.cond 28 (js [jm 29 10,jm 30 11,ja 31 6 29 30,jl 32 6 31,jp (.st 6 8 32),jm 9 kt] [8,9] .ret) .skip))) (.reg none [jm 20 11,jb 21 .add .i 20 (ki 1),jm 11 21] [3,8,10,11]))))) (js [jq 33 (.bld [.r (.v (.int .i64 0)),.r (.v (.int .i64 0)),.r (.v (.int .i64 0)),.r (.v (.string .empty)),.r (.v (.int .i64 0)),.r (.v (.int .i64 0))] []),jp (.st 6 8 33),jm 9 kf] [8,9] .ret)))
def rv38:List RV:=[.c 8 true 6,.t 9]
def dA (g:G) (t:TE) (a3:Int) (x1:List Scan):Nat→Int→Option (LR (Scan×Bool) Unit)
 |0,v1=>
  some (LR.out ())
 |n1+1,v1=>
  gt x1 (g.nat v1) fun x2=>
  br (g.lt a3 x2.At)
  (
   some (LR.ret (((Scan.mk x2.Thing x2.At x2.Kind x2.Place (Trip.mk x2.Trip.Leg x2.Trip.Day)),true))))
  (
   dA g t a3 x1 n1 (g.wrap .i64 (g.add v1 1)))
def hR (g:G) (t:TE) (a0:Network) (a1:List Scan) (a2:Int) (a3:Int):Option (Scan×Bool):=
 cl (jt g t a0 a1 a2) fun x1=>
 gd (((g.int (g.dlen (t.d_Scan x1)))≤9223372036854775807))<|
 cl (dA g t a3 x1 (aq 0 (g.int (g.dlen (t.d_Scan x1)))) 0) fun o1=>lr o1 fun y1=>
 some (((Scan.mk 0 0 0 ByteArray.empty (Trip.mk 0 0)),false))
theorem oV {g:G} {t:TE} {a0:Network} {a1:List Scan} {a2:Int} {a3:Int} {r:Scan×Bool} (hg:g=G.real) (ht:t=TE.real) (h:hR g t a0 a1 a2 a3=some r):Fn Tryz.prog 38 [.g (Network.rs t a0),.c (.s 6 (t.r_Scan a1)),.c (.v (.int .i64 a2)),.c (.v (.int .i64 a3))] (.u [.g (Scan.ds t r.1),.c (.r (.v (.bool r.2)))]):=by
 obtain⟨X,hX⟩:=aE (.u [.g (Scan.ds t r.1),.c (.r (.v (.bool r.2)))]:X);rw[←hX];refine au (rvs:=rv38) (j:=ir38) Tryz.func38 rfl (by kernel_rfl) (nb rfl) (by kernel_rfl) ae ?_;intro g2 F hg2 hF;obtain rfl:g2=g:=hg2.unique.trans hg.symm;clear hg2;obtain⟨wrap,lt,_,_,_,_,_,_,_,_,_,_,int,add,_,_,_,_,_,_,_,_,_,_,dlen⟩:=g2;obtain⟨_,_,_,_,_,d_Scan⟩:=t
 obtain⟨a0_Legs,a0_Off,a0_Change⟩:=a0;unfold hR at h;try dsimp only at h
 cbv;obtain⟨x1,hx1,h⟩:=ac h;try dsimp only at h
 refine ACall.mk _ _ rfl (hF _ _ _ (qk hg ht hx1)) (.inl rfl) (nb rfl) ?_;cbv;obtain⟨hB1,h⟩:=ah h;obtain⟨o1,ho1,h⟩:=ac h;try dsimp only at h
 try rw[hg] at ho1
 try rw[ht] at ho1
 refine ABL.mk {p:Nat×Int//p.1=aq p.2 (int (dlen (d_Scan x1)))∧0≤p.2∧dA G.real TE.real a3 x1 p.1 p.2=some o1} (fun⟨⟨n1,v1⟩,_⟩=>({sl:=[(3,.c (.r (.v (.int .i64 a3)))),(8,.c (.p 0 6 0 0)),(10,.c (.f 1 6 0 (dlen (d_Scan x1)))),(11,.c (.r (.v (.int .i64 v1))))],tab:=[(0,some (.foc 6 [] [.r (.v (.int .i64 0)),.r (.v (.int .i64 0)),.r (.v (.int .i64 0)),.r (.v (.string ByteArray.empty)),.r (.v (.int .i64 0)),.r (.v (.int .i64 0))] [])),(1,some (.arr 6 (d_Scan x1)))]}:St)) 2 (fun p=>p.1.1) ⟨(aq 0 (int (dlen (d_Scan x1))),0),rfl,Int.le_refl _,ho1⟩ (Unit) (fun _=>({sl:=[(8,.c (.p 0 6 0 0))],tab:=[(0,some (.foc 6 [] [.r (.v (.int .i64 0)),.r (.v (.int .i64 0)),.r (.v (.int .i64 0)),.r (.v (.string ByteArray.empty)),.r (.v (.int .i64 0)),.r (.v (.int .i64 0))] []))]}:St)) 1 (fun y=>o1=LR.out y) ?_ ?_ ?_
 ·refine Wk.of [(0,some 16),(1,some 96)] rfl rfl ?_ ?_
  ·cbv;all_goals exact⟨⟨_,rfl,rfl⟩,⟨_,rfl,rfl⟩,⟨_,rfl,rfl⟩,⟨_,rfl,rfl⟩,trivial⟩
  cbv;all_goals exact⟨⟨_,rfl,_,rfl,rfl,rfl,rfl,rfl,rfl,rfl,trivial⟩,⟨_,rfl,rfl⟩,trivial⟩
 ·rintro⟨⟨n1,v1⟩,hn1,hi1,h_1⟩ hq1;try dsimp only at hn1 hi1 h_1
  clear hq1;cbv;rcases n1 with _|n1
  ·have hb1:lt v1 (int (dlen (d_Scan x1)))=false:=be hg hn1;rw[dA] at h_1;try rw[←hg] at h_1
   try rw[←ht] at h_1
   try dsimp only at h_1
   rw[hb1];cbv;refine⟨(),Wk.of [(0,some 0)] rfl rfl ?_ ?_,(Option.some.inj h_1).symm⟩
   ·cbv;all_goals exact⟨⟨_,rfl,rfl⟩,trivial⟩
   cbv;all_goals exact⟨⟨_,rfl,_,rfl,rfl,rfl,rfl,rfl,rfl,rfl,trivial⟩,trivial⟩
  have hb1:lt v1 (int (dlen (d_Scan x1)))=true:=bF hg hn1;have hl1:=dM hn1;have hs1:=cF hg hn1 hi1 hB1 (by decide);rw[dA] at h_1;try rw[←hg] at h_1
  try rw[←ht] at h_1
  try dsimp only at h_1
  rw[hb1];cbv;refine AStep.mk (dB hg hi1 hl1) ?_;cbv;obtain⟨x2,hx2,h_1⟩:=aB h_1;obtain⟨x2_Thing,x2_At,x2_Kind,x2_Place,⟨x2_Trip_Leg,x2_Trip_Day⟩⟩:=x2;try dsimp only at h_1
  refine AGet.mk _ (aG hg ht hx2) ?_;cbv
  cases hb2:(lt a3 x2_At)
  rotate_left
  ·rw[ab hb2] at h_1;cbv;refine AStep.mk (dB hg hi1 hl1) ?_;cbv;refine AGet.mk _ (aG hg ht hx2) ?_;cbv;obtain rfl:=Option.some.inj h_1;try dsimp only[lr,lrL,lrp,aP] at h
   obtain rfl:=Option.some.inj h;exact ARet.mk trivial hX.symm
  rw[aa hb2] at h_1;cbv;try rw[hg] at h_1
  try rw[ht] at h_1
  refine⟨⟨(n1,(wrap .i64 (add v1 1))),hs1.1,hs1.2,h_1⟩,Wk.of [(0,some 0),(1,some 1)] rfl rfl ?_ ?_,Nat.lt_succ_self _⟩
  ·cbv;all_goals exact⟨⟨_,rfl,rfl⟩,⟨_,rfl,rfl⟩,⟨_,rfl,rfl⟩,⟨_,rfl,rfl⟩,trivial⟩
  cbv;all_goals exact⟨⟨_,rfl,_,rfl,rfl,rfl,rfl,rfl,rfl,rfl,trivial⟩,⟨_,rfl,rfl⟩,trivial⟩
 rintro _ hy1;replace hy1:=hy1.symm;subst hy1;try dsimp only[lr,lrL,lrp,aP] at h
 cbv;obtain rfl:=Option.some.inj h;exact ARet.mk trivial hX.symm
def ir87:J:=js [jq 4 (.box 0),jq 5 (.box 1),jq 6 (.box 2),jm 8 kf] [3,4,5,6] (.seq (js [jm 11 3,jq 12 (.not 11)] [4,5,6,12] (.cond 12 (js [jm 8 kt] [8] .ret) .skip)) (js [jl 13 3 4,jl 14 6 6,jc 15 115 [13,14],jq 9 (.alloc [.r (.v (.string .empty)),.r (.v (.int .i64 0))]),jp (.st 2 9 15)] [4,5,9] (js [jl 16 3 4,jl 17 2 5,jf 18 0 9,jk 19 18,jc 20 79 [16,17,19],jm 10 20] [9,10] (js [jm 21 10,jb 22 .geq .i 21 (ki 0),jm 23 22,ju 24 23 (.mv 10),ju 25 23 (.fa 1 9),ju 26 23 (.ld false 1 25),ju 27 23 (.bin .leq .i 24 26),jq 28 (.pick 23 27 kf),jm 8 28] [8] .ret))))
def rv87:List RV:=[.t 8]
def cA (g:G) (t:TE) (a0:Network) (a1:Spot) (a2:Scan) (a3:Bool):Option Bool:=
 br a3
 (
  cl (ea g t a0 (Scan.mk a2.Thing a2.At a2.Kind a2.Place (Trip.mk a2.Trip.Leg a2.Trip.Day))) fun x1=>
  cl (bo g t a0 a1 x1.Place) fun x2=>
  br (g.le 0 x2)
  (
   some (g.le x2 x1.At))
  (
   some false))
 (
  some true)
theorem cC {g:G} {t:TE} {a0:Network} {a1:Spot} {a2:Scan} {a3:Bool} {r:Bool} (hg:g=G.real) (ht:t=TE.real) (h:cA g t a0 a1 a2 a3=some r):Fn Tryz.prog 87 [.g (Network.rs t a0),.g (Spot.rs t a1),.g (Scan.rs t a2),.c (.v (.bool a3))] (.c (.r (.v (.bool r)))):=by
 obtain⟨X,hX⟩:=aE (.c (.r (.v (.bool r))):X);rw[←hX];refine au (rvs:=rv87) (j:=ir87) Tryz.func87 rfl (by kernel_rfl) (nb rfl) (by kernel_rfl) ae ?_;intro g2 F hg2 hF;obtain rfl:g2=g:=hg2.unique.trans hg.symm;clear hg2;obtain⟨_,_,le⟩:=g2;obtain⟨_⟩:=t
 obtain⟨a0_Legs,a0_Off,a0_Change⟩:=a0;obtain⟨a1_Place,a1_At⟩:=a1;obtain⟨a2_Thing,a2_At,a2_Kind,a2_Place,⟨a2_Trip_Leg,a2_Trip_Day⟩⟩:=a2;unfold cA at h;try dsimp only at h
 cbv
 cases hb1:a3
 ·rw[aa hb1] at h;cbv;obtain rfl:=Option.some.inj h;exact ARet.mk trivial hX.symm
 rw[ab hb1] at h;cbv;obtain⟨x1,hx1,h⟩:=ac h;obtain⟨x1_Place,x1_At⟩:=x1;try dsimp only at h
 refine ACall.mk _ _ rfl (hF _ _ _ (gT hg ht hx1)) (.inl rfl) (nb rfl) ?_;cbv;obtain⟨x2,hx2,h⟩:=ac h;try dsimp only at h
 refine ACall.mk _ _ rfl (hF _ _ _ (bh hg ht hx2)) (.inl rfl) (nb rfl) ?_;cbv
 cases hb2:(le 0 x2)
 rotate_left
 ·rw[ab hb2] at h;cbv;iterate 4 try(rw[hb2];cbv)
  obtain rfl:=Option.some.inj h;exact ARet.mk trivial hX.symm
 rw[aa hb2] at h;cbv;iterate 4 try(rw[hb2];cbv)
 obtain rfl:=Option.some.inj h;exact ARet.mk trivial hX.symm
def ir42:J:=js [jq 5 (.box 0),jm 10 kf] [1,2,3,4,5] (js [jl 17 3 5,jm 18 1,jm 19 2,jm 20 3,jc 21 35 [17,18,19,20],jm 16 21,jq 22 (.ext 0 16),jq 23 (.ext 1 16),jq 11 (.alloc [.r (.v (.int .i64 0)),.r (.v (.int .i64 0)),.r (.v (.int .i64 0)),.r (.v (.string .empty)),.r (.v (.int .i64 0)),.r (.v (.int .i64 0))]),jp (.st 6 11 22),jm 12 23] [1,2,3,4,5,11,12] (js [jl 25 3 5,jm 26 1,jm 27 2,jm 28 3,jc 29 38 [25,26,27,28],jm 24 29,jq 30 (.ext 0 24),jq 31 (.ext 1 24),jq 13 (.alloc [.r (.v (.int .i64 0)),.r (.v (.int .i64 0)),.r (.v (.int .i64 0)),.r (.v (.string .empty)),.r (.v (.int .i64 0)),.r (.v (.int .i64 0))]),jp (.st 6 13 30),jm 14 31] [3,4,5,11,12,13,14] (.seq (js [jm 32 12,jq 33 (.not 32),jm 34 33,jv 35 34 (.fa 2 11),jv 36 34 (.ld false 1 35),jv 37 34 (.bin .eql .i 36 (ki 4)),jq 38 (.pick 34 kt 37),jm 39 38,jv 40 39 (.ld true 3 5),jv 41 39 (.call 78 true [40]),jv 42 39 (.mv 4),jv 43 39 (.call 77 true [41,42]),jv 44 39 (.bin .lss .i 43 (ki 0)),jq 45 (.pick 39 kt 44)] [3,4,5,11,13,14,45] (.cond 45 (js [jm 10 kf] [10] .ret) .skip)) (.seq (js [jm 46 14,jm 47 46,ju 48 47 (.fa 2 13),ju 49 47 (.ld false 1 48),ju 50 47 (.bin .eql .i 49 (ki 2)),jq 51 (.pick 47 50 kf),jm 52 51,ju 53 52 (.ld true 3 5),ju 54 52 (.fa 4 13),ju 55 52 (.ld true 2 54),ju 56 52 (.call 85 true [53,55]),ju 57 52 (.mv 3),ju 58 52 (.bin .leq .i 56 57),jq 59 (.pick 52 58 kf)] [3,4,5,11,13,14,59] (.cond 59 (js [jl 60 3 5,jf 61 4 13,jl 62 2 61,jc 63 86 [60,62],jm 64 3,jb 65 .leq .i 63 64,jm 66 65,ju 67 66 (.mv 4),ju 68 66 (.fa 0 5),ju 69 66 (.ld false 1 68),ju 70 66 (.fa 4 13),ju 71 66 (.fa 0 70),ju 72 66 (.ld false 1 71),ju 73 66 (.ia 6 69 72),ju 74 66 (.fa 1 73),ju 75 66 (.ld false 1 74),ju 76 66 (.bin .eql .s 67 75),jq 77 (.pick 66 76 kf),jm 10 77] [10] .ret) .skip)) (.seq (js [jf 78 2 11,jk 79 78,jb 80 .eql .i 79 (ki 3),jm 81 80,ju 82 81 (.mv 3),ju 83 81 (.ld true 3 5),ju 84 81 (.fa 4 11),ju 85 81 (.ld true 2 84),ju 86 81 (.call 86 true [83,85]),ju 87 81 (.bin .lss .i 82 86),jq 88 (.pick 81 87 kf)] [3,4,5,11,13,14,88] (.cond 88 (js [jm 89 3,jl 90 3 5,jf 91 4 11,jl 92 2 91,jc 93 85 [90,92],jb 94 .lss .i 89 93,jm 95 94,ju 96 95 (.mv 4),ju 97 95 (.fa 0 5),ju 98 95 (.ld false 1 97),ju 99 95 (.fa 4 11),ju 100 95 (.fa 0 99),ju 101 95 (.ld false 1 100),ju 102 95 (.ia 6 98 101),ju 103 95 (.fa 0 102),ju 104 95 (.ld false 1 103),ju 105 95 (.bin .eql .s 96 104),jq 106 (.pick 95 105 kf),jm 10 106] [10] .ret) .skip)) (.seq (.reg (some [[],[],[],[1,2],[],[0,1,2,3,4],[0,1,2,3,4,5]]) [jl 107 3 5,jl 108 3 5,jl 109 6 11,jc 110 80 [108,109],jm 111 4,jc 112 79 [107,110,111],jm 15 112] [3,4,5,13,14,15]) (js [jm 113 15,jb 114 .geq .i 113 (ki 0),jm 115 114,ju 116 115 (.mv 15),ju 117 115 (.mv 3),ju 118 115 (.bin .leq .i 116 117),jq 119 (.pick 115 118 kf),jm 120 119,ju 121 120 (.ld true 3 5),ju 122 120 (.mv 4),ju 123 120
 (.mv 3),ju 124 120 (.bld [.r (.v (.string .empty)),.r (.v (.int .i64 0))] [(0,1,122),(1,1,123)]),ju 125 120 (.ld true 6 13),ju 126 120 (.mv 14),ju 127 120 (.call 87 true [121,124,125,126]),jq 128 (.pick 120 127 kf),jm 10 128] [10] .ret)))))))
def rv42:List RV:=[.t 10]
def g8 (g:G) (t:TE) (a0:Network) (a1:List Scan) (a2:Int) (a3:Int) (a4:ByteArray):Option Bool:=
 cl (ip g t a0 a1 a2 a3) fun x1=>
 cl (hR g t a0 a1 a2 a3) fun x2=>
 br x1.2
 (
  br (g.eq x1.1.Kind 4)
  (
   some false)
  (
   cl (dH g t a0) fun x3=>
   lP (eA g t x3 a4) fun x4=>
   br (g.lt x4 0)
   (
    some false)
   (
    br x2.2
    (
     br (g.eq x2.1.Kind 2)
     (
      cl (aU g t a0 (Trip.mk x2.1.Trip.Leg x2.1.Trip.Day)) fun x5=>
      br (g.le x5 a3)
      (
       cl (bw g t a0 (Trip.mk x2.1.Trip.Leg x2.1.Trip.Day)) fun x6=>
       br (g.le x6 a3)
       (
        gd (((0:Int)≤x2.1.Trip.Leg))<|
        gt a0.Legs (g.nat x2.1.Trip.Leg) fun x7=>
        some (g.seq a4 x7.To))
       (
        some false))
      (
       br (g.eq x1.1.Kind 3)
       (
        cl (bw g t a0 (Trip.mk x1.1.Trip.Leg x1.1.Trip.Day)) fun x8=>
        br (g.lt a3 x8)
        (
         cl (aU g t a0 (Trip.mk x1.1.Trip.Leg x1.1.Trip.Day)) fun x9=>
         br (g.lt a3 x9)
         (
          gd (((0:Int)≤x1.1.Trip.Leg))<|
          gt a0.Legs (g.nat x1.1.Trip.Leg) fun x10=>
          some (g.seq a4 x10.From))
         (
          some false))
        (
         cl (aM g t a0 (Scan.mk x1.1.Thing x1.1.At x1.1.Kind x1.1.Place (Trip.mk x1.1.Trip.Leg x1.1.Trip.Day))) fun x11=>
         cl (bo g t a0 x11 a4) fun x12=>
         br (g.le 0 x12)
         (
          br (g.le x12 a3)
          (
           cl (cA g t a0 (Spot.mk a4 a3) (Scan.mk x2.1.Thing x2.1.At x2.1.Kind x2.1.Place (Trip.mk x2.1.Trip.Leg x2.1.Trip.Day)) x2.2) fun x13=>
           some x13)
          (
           some false))
         (
          some false)))
       (
        cl (aM g t a0 (Scan.mk x1.1.Thing x1.1.At x1.1.Kind x1.1.Place (Trip.mk x1.1.Trip.Leg x1.1.Trip.Day))) fun x14=>
        cl (bo g t a0 x14 a4) fun x15=>
        br (g.le 0 x15)
        (
         br (g.le x15 a3)
         (
          cl (cA g t a0 (Spot.mk a4 a3) (Scan.mk x2.1.Thing x2.1.At x2.1.Kind x2.1.Place (Trip.mk x2.1.Trip.Leg x2.1.Trip.Day)) x2.2) fun x16=>
          some x16)
         (
          some false))
        (
         some false))))
     (
      br (g.eq x1.1.Kind 3)
      (
       cl (bw g t a0 (Trip.mk x1.1.Trip.Leg x1.1.Trip.Day)) fun x17=>
       br (g.lt a3 x17)
       (
        cl (aU g t a0 (Trip.mk x1.1.Trip.Leg x1.1.Trip.Day)) fun x18=>
        br (g.lt a3 x18)
        (
         gd (((0:Int)≤x1.1.Trip.Leg))<|
         gt a0.Legs (g.nat x1.1.Trip.Leg) fun x19=>
         some (g.seq a4 x19.From))
        (
         some false))
       (
        cl (aM g t a0 (Scan.mk x1.1.Thing x1.1.At x1.1.Kind x1.1.Place (Trip.mk x1.1.Trip.Leg x1.1.Trip.Day))) fun x20=>
        cl (bo g t a0 x20 a4) fun x21=>
        br (g.le 0 x21)
        (
         br (g.le x21 a3)
         (
          cl (cA g t a0 (Spot.mk a4 a3) (Scan.mk x2.1.Thing x2.1.At x2.1.Kind x2.1.Place (Trip.mk x2.1.Trip.Leg x2.1.Trip.Day)) x2.2) fun x22=>
          some x22)
         (
          some false))
        (
         some false)))
      (
       cl (aM g t a0 (Scan.mk x1.1.Thing x1.1.At x1.1.Kind x1.1.Place (Trip.mk x1.1.Trip.Leg x1.1.Trip.Day))) fun x23=>
       cl (bo g t a0 x23 a4) fun x24=>
       br (g.le 0 x24)
       (
        br (g.le x24 a3)
        (
         cl (cA g t a0 (Spot.mk a4 a3) (Scan.mk x2.1.Thing x2.1.At x2.1.Kind x2.1.Place (Trip.mk x2.1.Trip.Leg x2.1.Trip.Day)) x2.2) fun x25=>
         some x25)
        (
         some false))
       (
        some false))))
    (
     br (g.eq x1.1.Kind 3)
     (
      cl (bw g t a0 (Trip.mk x1.1.Trip.Leg x1.1.Trip.Day)) fun x26=>
      br (g.lt a3 x26)
      (
       cl (aU g t a0 (Trip.mk x1.1.Trip.Leg x1.1.Trip.Day)) fun x27=>
       br (g.lt a3 x27)
       (
        gd (((0:Int)≤x1.1.Trip.Leg))<|
        gt a0.Legs (g.nat x1.1.Trip.Leg) fun x28=>
        some (g.seq a4 x28.From))
       (
        some false))
      (
       cl (aM g t a0 (Scan.mk x1.1.Thing x1.1.At x1.1.Kind x1.1.Place (Trip.mk x1.1.Trip.Leg x1.1.Trip.Day))) fun x29=>
       cl (bo g t a0 x29 a4) fun x30=>
       br (g.le 0 x30)
       (
        br (g.le x30 a3)
        (
         cl (cA g t a0 (Spot.mk a4 a3) (Scan.mk x2.1.Thing x2.1.At x2.1.Kind x2.1.Place (Trip.mk x2.1.Trip.Leg x2.1.Trip.Day)) x2.2) fun x31=>
         some x31)
        (
         some false))
       (
        some false)))
     (
      cl (aM g t a0 (Scan.mk x1.1.Thing x1.1.At x1.1.Kind x1.1.Place (Trip.mk x1.1.Trip.Leg x1.1.Trip.Day))) fun x32=>
      cl (bo g t a0 x32 a4) fun x33=>
      br (g.le 0 x33)
      (
       br (g.le x33 a3)
       (
        cl (cA g t a0 (Spot.mk a4 a3) (Scan.mk x2.1.Thing x2.1.At x2.1.Kind x2.1.Place (Trip.mk x2.1.Trip.Leg x2.1.Trip.Day)) x2.2) fun x34=>
        some x34)
       (
        some false))
      (
       some false))))))
 (
  some false)
theorem mt {g:G} {t:TE} {a0:Network} {a1:List Scan} {a2:Int} {a3:Int} {a4:ByteArray} {r:Bool} (hg:g=G.real) (ht:t=TE.real) (h:g8 g t a0 a1 a2 a3 a4=some r):Fn Tryz.prog 42 [.g (Network.rs t a0),.c (.s 6 (t.r_Scan a1)),.c (.v (.int .i64 a2)),.c (.v (.int .i64 a3)),.c (.v (.string a4))] (.c (.r (.v (.bool r)))):=by
 obtain⟨X,hX⟩:=aE (.c (.r (.v (.bool r))):X);rw[←hX];refine au (rvs:=rv42) (j:=ir42) Tryz.func42 rfl (by kernel_rfl) (nb rfl) (by kernel_rfl) ae ?_;intro g2 F hg2 hF;obtain rfl:g2=g:=hg2.unique.trans hg.symm;clear hg2;obtain⟨_,lt,le,eq,_,_,_,_,_,_,_,_,_,_,_,_,_,_,_,_,_,_,_,_,dlen,_,_,_,rd⟩:=g2;obtain⟨_,_,_,_,_,_,r_S,d_S⟩:=t
 obtain⟨a0_Legs,a0_Off,a0_Change⟩:=a0;unfold g8 at h;try dsimp only at h
 cbv;obtain⟨x1,hx1,h⟩:=ac h;obtain⟨⟨x1_1_Thing,x1_1_At,x1_1_Kind,x1_1_Place,⟨x1_1_Trip_Leg,x1_1_Trip_Day⟩⟩,x1_2⟩:=x1;try dsimp only at h
 refine ACall.mk _ _ rfl (hF _ _ _ (oa hg ht hx1)) (.inl rfl) (nb rfl) ?_;cbv;obtain⟨x2,hx2,h⟩:=ac h;obtain⟨⟨x2_1_Thing,x2_1_At,x2_1_Kind,x2_1_Place,⟨x2_1_Trip_Leg,x2_1_Trip_Day⟩⟩,x2_2⟩:=x2;try dsimp only at h
 refine ACall.mk _ _ rfl (hF _ _ _ (oV hg ht hx2)) (.inl rfl) (nb rfl) ?_;cbv;have hb1:x1_2=true∨x1_2=false:=by cases x1_2<;>simp
 rcases hb1 with hb1|hb1
 ·rw[ab hb1] at h;have hK_:=h;subst hb1;have h:=hK_;clear hK_;cbv;iterate 3 try(rw[hb1];cbv)
  cases hb2:(eq x1_1_Kind 4)
  rotate_left
  ·rw[ab hb2] at h;cbv;iterate 5 try(rw[hb2];cbv)
   obtain rfl:=Option.some.inj h;exact ARet.mk trivial hX.symm
  rw[aa hb2] at h;cbv;try(rw[hb2];cbv)
  obtain⟨x3,hx3,h⟩:=ac h;try dsimp only at h
  refine ACall.mk _ _ rfl (hF _ _ _ (eT hg ht hx3)) (.inl rfl) (nb rfl) ?_;cbv;iterate 2 try(rw[hb2];cbv)
  refine AStep.mk (dN ht (al hg ht _)) ?_;cbv;obtain⟨x4,hx4,h⟩:=ak h;try dsimp only at h
  refine ACall.mk _ _ (by rw[show rd (d_S x3) 0 (dlen (d_S x3))=r_S x3 from f7 hg ht (al hg ht _)];try rfl) (hF _ _ _ (fH hg ht hx4)) (.inr rfl) (nb rfl) ?_
  cbv;iterate 2 try(rw[hb2];cbv)
  cases hb3:(lt x4 0)
  rotate_left
  ·rw[ab hb3] at h;cbv;obtain rfl:=Option.some.inj h;exact ARet.mk trivial hX.symm
  rw[aa hb3] at h;cbv;have hb4:x2_2=true∨x2_2=false:=by cases x2_2<;>simp
  rcases hb4 with hb4|hb4
  ·rw[ab hb4] at h;have hK_:=h;subst hb4;have h:=hK_;clear hK_;cbv;iterate 3 try(rw[hb4];cbv)
   cases hb5:(eq x2_1_Kind 2)
   ·rw[aa hb5] at h;cbv;iterate 6 try(rw[hb5];cbv)
    cases hb15:(eq x1_1_Kind 3)
    ·rw[aa hb15] at h;cbv;iterate 6 try(rw[hb15];cbv)
     obtain⟨x23,hx23,h⟩:=ac h;obtain⟨x23_Place,x23_At⟩:=x23;try dsimp only at h
     refine ACall.mk _ _ rfl (hF _ _ _ (aT hg ht hx23)) (.inl rfl) (nb rfl) ?_;cbv;obtain⟨x24,hx24,h⟩:=ac h;try dsimp only at h
     refine ACall.mk _ _ rfl (hF _ _ _ (bh hg ht hx24)) (.inl rfl) (nb rfl) ?_;cbv
     cases hb20:(le 0 x24)
     ·rw[aa hb20] at h;cbv;iterate 3 try(rw[hb20];cbv)
      obtain rfl:=Option.some.inj h;exact ARet.mk trivial hX.symm
     rw[ab hb20] at h;cbv;iterate 3 try(rw[hb20];cbv)
     cases hb21:(le x24 a3)
     ·rw[aa hb21] at h;cbv;iterate 7 try(rw[hb21];cbv)
      obtain rfl:=Option.some.inj h;exact ARet.mk trivial hX.symm
     rw[ab hb21] at h;cbv;iterate 6 try(rw[hb21];cbv)
     obtain⟨x25,hx25,h⟩:=ac h;try dsimp only at h
     refine ACall.mk _ _ rfl (hF _ _ _ (cC hg ht hx25)) (.inl rfl) (nb rfl) ?_;cbv;try(rw[hb21];cbv)
     obtain rfl:=Option.some.inj h;exact ARet.mk trivial hX.symm
    rw[ab hb15] at h;cbv;iterate 4 try(rw[hb15];cbv)
    obtain⟨x17,hx17,h⟩:=ac h;try dsimp only at h
    refine ACall.mk _ _ rfl (hF _ _ _ (bu hg ht hx17)) (.inl rfl) (nb rfl) ?_;cbv;iterate 2 try(rw[hb15];cbv)
    cases hb16:(lt a3 x17)
    rotate_left
    ·rw[ab hb16] at h;cbv;obtain⟨x18,hx18,h⟩:=ac h;try dsimp only at h
     refine ACall.mk _ _ rfl (hF _ _ _ (ba hg ht hx18)) (.inl rfl) (nb rfl) ?_;cbv
     cases hb17:(lt a3 x18)
     ·rw[aa hb17] at h;cbv;iterate 10 try(rw[hb17];cbv)
      obtain rfl:=Option.some.inj h;exact ARet.mk trivial hX.symm
     rw[ab hb17] at h;cbv;iterate 6 try(rw[hb17];cbv)
     obtain⟨hc3,h⟩:=ah h;refine AStep.mk hc3 ?_;cbv;obtain⟨x19,hx19,h⟩:=aB h;obtain⟨x19_From,x19_To,x19_Start,x19_Takes,x19_Days,x19_Room⟩:=x19;try dsimp only at h
     refine AGet.mk _ (ax hg ht hx19) ?_;cbv;iterate 4 try(rw[hb17];cbv)
     obtain rfl:=Option.some.inj h;exact ARet.mk trivial hX.symm
    rw[aa hb16] at h;cbv;obtain⟨x20,hx20,h⟩:=ac h;obtain⟨x20_Place,x20_At⟩:=x20;try dsimp only at h
    refine ACall.mk _ _ rfl (hF _ _ _ (aT hg ht hx20)) (.inl rfl) (nb rfl) ?_;cbv;obtain⟨x21,hx21,h⟩:=ac h;try dsimp only at h
    refine ACall.mk _ _ rfl (hF _ _ _ (bh hg ht hx21)) (.inl rfl) (nb rfl) ?_;cbv
    cases hb18:(le 0 x21)
    ·rw[aa hb18] at h;cbv;iterate 3 try(rw[hb18];cbv)
     obtain rfl:=Option.some.inj h;exact ARet.mk trivial hX.symm
    rw[ab hb18] at h;cbv;iterate 3 try(rw[hb18];cbv)
    cases hb19:(le x21 a3)
    ·rw[aa hb19] at h;cbv;iterate 7 try(rw[hb19];cbv)
     obtain rfl:=Option.some.inj h;exact ARet.mk trivial hX.symm
    rw[ab hb19] at h;cbv;iterate 6 try(rw[hb19];cbv)
    obtain⟨x22,hx22,h⟩:=ac h;try dsimp only at h
    refine ACall.mk _ _ rfl (hF _ _ _ (cC hg ht hx22)) (.inl rfl) (nb rfl) ?_;cbv;try(rw[hb19];cbv)
    obtain rfl:=Option.some.inj h;exact ARet.mk trivial hX.symm
   rw[ab hb5] at h;cbv;iterate 3 try(rw[hb5];cbv)
   obtain⟨x5,hx5,h⟩:=ac h;try dsimp only at h
   refine ACall.mk _ _ rfl (hF _ _ _ (ba hg ht hx5)) (.inl rfl) (nb rfl) ?_;cbv;iterate 3 try(rw[hb5];cbv)
   cases hb6:(le x5 a3)
   rotate_left
   ·rw[ab hb6] at h;cbv;obtain⟨x6,hx6,h⟩:=ac h;try dsimp only at h
    refine ACall.mk _ _ rfl (hF _ _ _ (bu hg ht hx6)) (.inl rfl) (nb rfl) ?_;cbv
    cases hb7:(le x6 a3)
    ·rw[aa hb7] at h;cbv;iterate 10 try(rw[hb7];cbv)
     obtain rfl:=Option.some.inj h;exact ARet.mk trivial hX.symm
    rw[ab hb7] at h;cbv;iterate 6 try(rw[hb7];cbv)
    obtain⟨hc1,h⟩:=ah h;refine AStep.mk hc1 ?_;cbv;obtain⟨x7,hx7,h⟩:=aB h;obtain⟨x7_From,x7_To,x7_Start,x7_Takes,x7_Days,x7_Room⟩:=x7;try dsimp only at h
    refine AGet.mk _ (ax hg ht hx7) ?_;cbv;iterate 4 try(rw[hb7];cbv)
    obtain rfl:=Option.some.inj h;exact ARet.mk trivial hX.symm
   rw[aa hb6] at h;cbv
   cases hb8:(eq x1_1_Kind 3)
   ·rw[aa hb8] at h;cbv;iterate 6 try(rw[hb8];cbv)
    obtain⟨x14,hx14,h⟩:=ac h;obtain⟨x14_Place,x14_At⟩:=x14;try dsimp only at h
    refine ACall.mk _ _ rfl (hF _ _ _ (aT hg ht hx14)) (.inl rfl) (nb rfl) ?_;cbv;obtain⟨x15,hx15,h⟩:=ac h;try dsimp only at h
    refine ACall.mk _ _ rfl (hF _ _ _ (bh hg ht hx15)) (.inl rfl) (nb rfl) ?_;cbv
    cases hb13:(le 0 x15)
    ·rw[aa hb13] at h;cbv;iterate 3 try(rw[hb13];cbv)
     obtain rfl:=Option.some.inj h;exact ARet.mk trivial hX.symm
    rw[ab hb13] at h;cbv;iterate 3 try(rw[hb13];cbv)
    cases hb14:(le x15 a3)
    ·rw[aa hb14] at h;cbv;iterate 7 try(rw[hb14];cbv)
     obtain rfl:=Option.some.inj h;exact ARet.mk trivial hX.symm
    rw[ab hb14] at h;cbv;iterate 6 try(rw[hb14];cbv)
    obtain⟨x16,hx16,h⟩:=ac h;try dsimp only at h
    refine ACall.mk _ _ rfl (hF _ _ _ (cC hg ht hx16)) (.inl rfl) (nb rfl) ?_;cbv;try(rw[hb14];cbv)
    obtain rfl:=Option.some.inj h;exact ARet.mk trivial hX.symm
   rw[ab hb8] at h;cbv;iterate 4 try(rw[hb8];cbv)
   obtain⟨x8,hx8,h⟩:=ac h;try dsimp only at h
   refine ACall.mk _ _ rfl (hF _ _ _ (bu hg ht hx8)) (.inl rfl) (nb rfl) ?_;cbv;iterate 2 try(rw[hb8];cbv)
   cases hb9:(lt a3 x8)
   rotate_left
   ·rw[ab hb9] at h;cbv;obtain⟨x9,hx9,h⟩:=ac h;try dsimp only at h
    refine ACall.mk _ _ rfl (hF _ _ _ (ba hg ht hx9)) (.inl rfl) (nb rfl) ?_;cbv
    cases hb10:(lt a3 x9)
    ·rw[aa hb10] at h;cbv;iterate 10 try(rw[hb10];cbv)
     obtain rfl:=Option.some.inj h;exact ARet.mk trivial hX.symm
    rw[ab hb10] at h;cbv;iterate 6 try(rw[hb10];cbv)
    obtain⟨hc2,h⟩:=ah h;refine AStep.mk hc2 ?_;cbv;obtain⟨x10,hx10,h⟩:=aB h;obtain⟨x10_From,x10_To,x10_Start,x10_Takes,x10_Days,x10_Room⟩:=x10;try dsimp only at h
    refine AGet.mk _ (ax hg ht hx10) ?_;cbv;iterate 4 try(rw[hb10];cbv)
    obtain rfl:=Option.some.inj h;exact ARet.mk trivial hX.symm
   rw[aa hb9] at h;cbv;obtain⟨x11,hx11,h⟩:=ac h;obtain⟨x11_Place,x11_At⟩:=x11;try dsimp only at h
   refine ACall.mk _ _ rfl (hF _ _ _ (aT hg ht hx11)) (.inl rfl) (nb rfl) ?_;cbv;obtain⟨x12,hx12,h⟩:=ac h;try dsimp only at h
   refine ACall.mk _ _ rfl (hF _ _ _ (bh hg ht hx12)) (.inl rfl) (nb rfl) ?_;cbv
   cases hb11:(le 0 x12)
   ·rw[aa hb11] at h;cbv;iterate 3 try(rw[hb11];cbv)
    obtain rfl:=Option.some.inj h;exact ARet.mk trivial hX.symm
   rw[ab hb11] at h;cbv;iterate 3 try(rw[hb11];cbv)
   cases hb12:(le x12 a3)
   ·rw[aa hb12] at h;cbv;iterate 7 try(rw[hb12];cbv)
    obtain rfl:=Option.some.inj h;exact ARet.mk trivial hX.symm
   rw[ab hb12] at h;cbv;iterate 6 try(rw[hb12];cbv)
   obtain⟨x13,hx13,h⟩:=ac h;try dsimp only at h
   refine ACall.mk _ _ rfl (hF _ _ _ (cC hg ht hx13)) (.inl rfl) (nb rfl) ?_;cbv;try(rw[hb12];cbv)
   obtain rfl:=Option.some.inj h;exact ARet.mk trivial hX.symm
  rw[aa hb4] at h;have hK_:=h;subst hb4;have h:=hK_;clear hK_;cbv;iterate 3 try(rw[hb4];cbv)
  cases hb22:(eq x1_1_Kind 3)
  ·rw[aa hb22] at h;cbv;iterate 6 try(rw[hb22];cbv)
   obtain⟨x32,hx32,h⟩:=ac h;obtain⟨x32_Place,x32_At⟩:=x32;try dsimp only at h
   refine ACall.mk _ _ rfl (hF _ _ _ (aT hg ht hx32)) (.inl rfl) (nb rfl) ?_;cbv;obtain⟨x33,hx33,h⟩:=ac h;try dsimp only at h
   refine ACall.mk _ _ rfl (hF _ _ _ (bh hg ht hx33)) (.inl rfl) (nb rfl) ?_;cbv
   cases hb27:(le 0 x33)
   ·rw[aa hb27] at h;cbv;iterate 3 try(rw[hb27];cbv)
    obtain rfl:=Option.some.inj h;exact ARet.mk trivial hX.symm
   rw[ab hb27] at h;cbv;iterate 3 try(rw[hb27];cbv)
   cases hb28:(le x33 a3)
   ·rw[aa hb28] at h;cbv;iterate 7 try(rw[hb28];cbv)
    obtain rfl:=Option.some.inj h;exact ARet.mk trivial hX.symm
   rw[ab hb28] at h;cbv;iterate 6 try(rw[hb28];cbv)
   obtain⟨x34,hx34,h⟩:=ac h;try dsimp only at h
   refine ACall.mk _ _ rfl (hF _ _ _ (cC hg ht hx34)) (.inl rfl) (nb rfl) ?_;cbv;try(rw[hb28];cbv)
   obtain rfl:=Option.some.inj h;exact ARet.mk trivial hX.symm
  rw[ab hb22] at h;cbv;iterate 4 try(rw[hb22];cbv)
  obtain⟨x26,hx26,h⟩:=ac h;try dsimp only at h
  refine ACall.mk _ _ rfl (hF _ _ _ (bu hg ht hx26)) (.inl rfl) (nb rfl) ?_;cbv;iterate 2 try(rw[hb22];cbv)
  cases hb23:(lt a3 x26)
  rotate_left
  ·rw[ab hb23] at h;cbv;obtain⟨x27,hx27,h⟩:=ac h;try dsimp only at h
   refine ACall.mk _ _ rfl (hF _ _ _ (ba hg ht hx27)) (.inl rfl) (nb rfl) ?_;cbv
   cases hb24:(lt a3 x27)
   ·rw[aa hb24] at h;cbv;iterate 10 try(rw[hb24];cbv)
    obtain rfl:=Option.some.inj h;exact ARet.mk trivial hX.symm
   rw[ab hb24] at h;cbv;iterate 6 try(rw[hb24];cbv)
   obtain⟨hc4,h⟩:=ah h;refine AStep.mk hc4 ?_;cbv;obtain⟨x28,hx28,h⟩:=aB h;obtain⟨x28_From,x28_To,x28_Start,x28_Takes,x28_Days,x28_Room⟩:=x28;try dsimp only at h
   refine AGet.mk _ (ax hg ht hx28) ?_;cbv;iterate 4 try(rw[hb24];cbv)
   obtain rfl:=Option.some.inj h;exact ARet.mk trivial hX.symm
  rw[aa hb23] at h;cbv;obtain⟨x29,hx29,h⟩:=ac h;obtain⟨x29_Place,x29_At⟩:=x29;try dsimp only at h
  refine ACall.mk _ _ rfl (hF _ _ _ (aT hg ht hx29)) (.inl rfl) (nb rfl) ?_;cbv;obtain⟨x30,hx30,h⟩:=ac h;try dsimp only at h
  refine ACall.mk _ _ rfl (hF _ _ _ (bh hg ht hx30)) (.inl rfl) (nb rfl) ?_;cbv
  cases hb25:(le 0 x30)
  ·rw[aa hb25] at h;cbv;iterate 3 try(rw[hb25];cbv)
   obtain rfl:=Option.some.inj h;exact ARet.mk trivial hX.symm
  rw[ab hb25] at h;cbv;iterate 3 try(rw[hb25];cbv)
  cases hb26:(le x30 a3)
  ·rw[aa hb26] at h;cbv;iterate 7 try(rw[hb26];cbv)
   obtain rfl:=Option.some.inj h;exact ARet.mk trivial hX.symm
  rw[ab hb26] at h;cbv;iterate 6 try(rw[hb26];cbv)
  obtain⟨x31,hx31,h⟩:=ac h;try dsimp only at h
  refine ACall.mk _ _ rfl (hF _ _ _ (cC hg ht hx31)) (.inl rfl) (nb rfl) ?_;cbv;try(rw[hb26];cbv)
  obtain rfl:=Option.some.inj h;exact ARet.mk trivial hX.symm
 rw[aa hb1] at h;have hK_:=h;subst hb1;have h:=hK_;clear hK_;cbv;iterate 3 try(rw[hb1];cbv)
 obtain rfl:=Option.some.inj h;exact ARet.mk trivial hX.symm
end Go.Vs
