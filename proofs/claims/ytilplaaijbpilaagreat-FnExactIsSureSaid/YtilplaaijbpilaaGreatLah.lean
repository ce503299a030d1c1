/- Part of the proofs of this seat's laws: Lah. No condition. -/
import Derived.Test.YtilplaaijbpilaaGreatTy
import Derived.Test.YtilplaaijbpilaaGreatTIRall
import Derived.Test.YtilplaaijbpilaaGreatLad
import Derived.Test.YtilplaaijbpilaaGreatLac
import Derived.Test.YtilplaaijbpilaaGreatLae
import Derived.Test.YtilplaaijbpilaaGreatLaa
import Derived.Test.YtilplaaijbpilaaGreatLab
set_option linter.unusedVariables false
set_option linter.unusedSimpArgs false
set_option linter.unusedSectionVars false
namespace Go.Vs
set_option maxRecDepth 100000
def ir87:J:=js [jq 4 (.box 0),jq 5 (.box 1),jq 6 (.box 2),jm 8 kf] [3,4,5,6] (.seq (js [jm 11 3,jq 12 (.not 11)] [4,5,6,12] (.cond 12 (js [jm 8 kt] [8] .ret) .skip)) (js [jl 13 3 4,jl 14 6 6,jc 15 115 [13,14],jq 9 (.alloc [.r (.v (.string .empty)),.r (.v (.int .i64 0))]),jp (.st 2 9 15)] [4,5,9] (js [jl 16 3 4,jl 17 2 5,jf 18 0 9,jk 19 18,jc 20 79 [16,17,19],jm 10 20] [9,10] (js [jm 21 10,jb 22 .geq .i 21 (ki 0),jm 23 22,ju 24 23 (.mv 10),ju 25 23 (.fa 1 9),ju 26 23 (.ld false 1 25),ju 27 23 (.bin .leq .i 24 26),jq 28 (.pick 23 27 kf),jm 8 28] [8] .ret))))
def rv87:List RV:=[.t 8]
open Go.Proofs Go.IntWalk
set_option linter.unusedVariables false
set_option maxHeartbeats 4000000
def c8 (g:G) (t:TE) (a0:Network) (a1:Spot) (a2:Scan) (a3:Bool):Option Bool:=
 br a3
 (
  cl (fk g t a0 (Scan.mk a2.Thing a2.At a2.Kind a2.Place (Trip.mk a2.Trip.Leg a2.Trip.Day))) fun x1=>
  cl (bC g t a0 a1 x1.Place) fun x2=>
  br (g.le 0 x2)
  (
   some (g.le x2 x1.At))
  (
   some false))
 (
  some true)
theorem c9 {g:G} {t:TE} {a0:Network} {a1:Spot} {a2:Scan} {a3:Bool} {r:Bool} (hg:g=G.real) (ht:t=TE.real) (h:c8 g t a0 a1 a2 a3=some r):Fn Tryz.prog 87 [.g (Network.rs t a0),.g (Spot.rs t a1),.g (Scan.rs t a2),.c (.v (.bool a3))] (.c (.r (.v (.bool r)))):=by
 obtain⟨X,hX⟩:=aH (.c (.r (.v (.bool r))):X);rw[←hX];refine aw (rvs:=rv87) (j:=ir87) Tryz.func87 rfl (by kernel_rfl) (nb rfl) (by kernel_rfl) af ?_;intro g2 F hg2 hF;obtain rfl:g2=g:=hg2.unique.trans hg.symm;clear hg2;obtain⟨_,_,le⟩:=g2;obtain⟨_⟩:=t
 obtain⟨a0_Legs,a0_Off,a0_Change⟩:=a0;obtain⟨a1_Place,a1_At⟩:=a1;obtain⟨a2_Thing,a2_At,a2_Kind,a2_Place,⟨a2_Trip_Leg,a2_Trip_Day⟩⟩:=a2;unfold c8 at h;try dsimp only at h
 cbv
 cases hb1:a3
 ·rw[aa hb1] at h;cbv;obtain rfl:=Option.some.inj h;exact ARet.mk trivial hX.symm
 rw[ab hb1] at h;cbv;obtain⟨x1,hx1,h⟩:=ac h;obtain⟨x1_Place,x1_At⟩:=x1;try dsimp only at h
 refine ACall.mk _ _ rfl (hF _ _ _ (jy hg ht hx1)) (.inl rfl) (nb rfl) ?_;cbv;obtain⟨x2,hx2,h⟩:=ac h;try dsimp only at h
 refine ACall.mk _ _ rfl (hF _ _ _ (bw hg ht hx2)) (.inl rfl) (nb rfl) ?_;cbv
 cases hb2:(le 0 x2)
 rotate_left
 ·rw[ab hb2] at h;cbv;iterate 4 try(rw[hb2];cbv)
  obtain rfl:=Option.some.inj h;exact ARet.mk trivial hX.symm
 rw[aa hb2] at h;cbv;iterate 4 try(rw[hb2];cbv)
 obtain rfl:=Option.some.inj h;exact ARet.mk trivial hX.symm
def ir42:J:=js [jq 5 (.box 0),jm 10 kf] [1,2,3,4,5] (js [jl 17 3 5,jm 18 1,jm 19 2,jm 20 3,jc 21 35 [17,18,19,20],jm 16 21,jq 22 (.ext 0 16),jq 23 (.ext 1 16),jq 11 (.alloc [.r (.v (.int .i64 0)),.r (.v (.int .i64 0)),.r (.v (.int .i64 0)),.r (.v (.string .empty)),.r (.v (.int .i64 0)),.r (.v (.int .i64 0))]),jp (.st 6 11 22),jm 12 23] [1,2,3,4,5,11,12] (js [jl 25 3 5,jm 26 1,jm 27 2,jm 28 3,jc 29 38 [25,26,27,28],jm 24 29,jq 30 (.ext 0 24),jq 31 (.ext 1 24),jq 13 (.alloc [.r (.v (.int .i64 0)),.r (.v (.int .i64 0)),.r (.v (.int .i64 0)),.r (.v (.string .empty)),.r (.v (.int .i64 0)),.r (.v (.int .i64 0))]),jp (.st 6 13 30),jm 14 31] [3,4,5,11,12,13,14] (.seq (js [jm 32 12,jq 33 (.not 32),jm 34 33,jv 35 34 (.fa 2 11),jv 36 34 (.ld false 1 35),jv 37 34 (.bin .eql .i 36 (ki 4)),jq 38 (.pick 34 kt 37),jm 39 38,jv 40 39 (.ld true 3 5),jv 41 39 (.call 78 true [40]),jv 42 39 (.mv 4),jv 43 39 (.call 77 true [41,42]),jv 44 39 (.bin .lss .i 43 (ki 0)),jq 45 (.pick 39 kt 44)] [3,4,5,11,13,14,45] (.cond 45 (js [jm 10 kf] [10] .ret) .skip)) (.seq (js [jm 46 14,jm 47 46,ju 48 47 (.fa 2 13),ju 49 47 (.ld false 1 48),ju 50 47 (.bin .eql .i 49 (ki 2)),jq 51 (.pick 47 50 kf),jm 52 51,ju 53 52 (.ld true 3 5),ju 54 52 (.fa 4 13),ju 55 52 (.ld true 2 54),ju 56 52 (.call 85 true [53,55]),ju 57 52 (.mv 3),ju 58 52 (.bin .leq .i 56 57),jq 59 (.pick 52 58 kf)] [3,4,5,11,13,14,59] (.cond 59 (js [jl 60 3 5,jf 61 4 13,jl 62 2 61,jc 63 86 [60,62],jm 64 3,jb 65 .leq .i 63 64,jm 66 65,ju 67 66 (.mv 4),ju 68 66 (.fa 0 5),ju 69 66 (.ld false 1 68),ju 70 66 (.fa 4 13),ju 71 66 (.fa 0 70),ju 72 66 (.ld false 1 71),ju 73 66 (.ia 6 69 72),ju 74 66 (.fa 1 73),ju 75 66 (.ld false 1 74),ju 76 66 (.bin .eql .s 67 75),jq 77 (.pick 66 76 kf),jm 10 77] [10] .ret) .skip)) (.seq (js [jf 78 2 11,jk 79 78,jb 80 .eql .i 79 (ki 3),jm 81 80,ju 82 81 (.mv 3),ju 83 81 (.ld true 3 5),ju 84 81 (.fa 4 11),ju 85 81 (.ld true 2 84),ju 86 81 (.call 86 true [83,85]),ju 87 81 (.bin .lss .i 82 86),jq 88 (.pick 81 87 kf)] [3,4,5,11,13,14,88] (.cond 88 (js [jm 89 3,jl 90 3 5,jf 91 4 11,jl 92 2 91,jc 93 85 [90,92],jb 94 .lss .i 89 93,jm 95 94,ju 96 95 (.mv 4),ju 97 95 (.fa 0 5),ju 98 95 (.ld false 1 97),ju 99 95 (.fa 4 11),ju 100 95 (.fa 0 99),ju 101 95 (.ld false 1 100),ju 102 95 (.ia 6 98 101),ju 103 95 (.fa 0 102),ju 104 95 (.ld false 1 103),ju 105 95 (.bin .eql .s 96 104),jq 106 (.pick 95 105 kf),jm 10 106] [10] .ret) .skip)) (.seq (.reg (some [[],[],[],[1,2],[],[0,1,2,3,4],[0,1,2,3,4,5]]) [jl 107 3 5,jl 108 3 5,jl 109 6 11,jc 110 80 [108,109],jm 111 4,jc 112 79 [107,110,111],jm 15 112] [3,4,5,13,14,15]) (js [jm 113 15,jb 114 .geq .i 113 (ki 0),jm 115 114,ju 116 115 (.mv 15),ju 117 115 (.mv 3),ju 118 115 (.bin .leq .i 116 117),jq 119 (.pick 115 118 kf),jm 120 119,ju 121 120 (.ld true 3 5),ju 122 120 (.mv 4),ju 123 120
 (.mv 3),ju 124 120 (.bld [.r (.v (.string .empty)),.r (.v (.int .i64 0))] [(0,1,122),(1,1,123)]),ju 125 120 (.ld true 6 13),ju 126 120 (.mv 14),ju 127 120 (.call 87 true [121,124,125,126]),jq 128 (.pick 120 127 kf),jm 10 128] [10] .ret)))))))
def rv42:List RV:=[.t 10]
def jh (g:G) (t:TE) (a0:Network) (a1:List Scan) (a2:Int) (a3:Int) (a4:ByteArray):Option Bool:=
 cl (iO g t a0 a1 a2 a3) fun x1=>
 cl (iV g t a0 a1 a2 a3) fun x2=>
 br x1.2
 (
  br (g.eq x1.1.Kind 4)
  (
   some false)
  (
   cl (dU g t a0) fun x3=>
   lP (eQ g t x3 a4) fun x4=>
   br (g.lt x4 0)
   (
    some false)
   (
    br x2.2
    (
     br (g.eq x2.1.Kind 2)
     (
      cl (bg g t a0 (Trip.mk x2.1.Trip.Leg x2.1.Trip.Day)) fun x5=>
      br (g.le x5 a3)
      (
       cl (bP g t a0 (Trip.mk x2.1.Trip.Leg x2.1.Trip.Day)) fun x6=>
       br (g.le x6 a3)
       (
        gd (((0:Int)≤x2.1.Trip.Leg))<|
        gt a0.Legs (g.nat x2.1.Trip.Leg) fun x7=>
        some (g.seq a4 x7.To))
       (
        some false))
      (
       br (g.eq x1.1.Kind 3)
       (
        cl (bP g t a0 (Trip.mk x1.1.Trip.Leg x1.1.Trip.Day)) fun x8=>
        br (g.lt a3 x8)
        (
         cl (bg g t a0 (Trip.mk x1.1.Trip.Leg x1.1.Trip.Day)) fun x9=>
         br (g.lt a3 x9)
         (
          gd (((0:Int)≤x1.1.Trip.Leg))<|
          gt a0.Legs (g.nat x1.1.Trip.Leg) fun x10=>
          some (g.seq a4 x10.From))
         (
          some false))
        (
         cl (aV g t a0 (Scan.mk x1.1.Thing x1.1.At x1.1.Kind x1.1.Place (Trip.mk x1.1.Trip.Leg x1.1.Trip.Day))) fun x11=>
         cl (bC g t a0 x11 a4) fun x12=>
         br (g.le 0 x12)
         (
          br (g.le x12 a3)
          (
           cl (c8 g t a0 (Spot.mk a4 a3) (Scan.mk x2.1.Thing x2.1.At x2.1.Kind x2.1.Place (Trip.mk x2.1.Trip.Leg x2.1.Trip.Day)) x2.2) fun x13=>
           some x13)
          (
           some false))
         (
          some false)))
       (
        cl (aV g t a0 (Scan.mk x1.1.Thing x1.1.At x1.1.Kind x1.1.Place (Trip.mk x1.1.Trip.Leg x1.1.Trip.Day))) fun x14=>
        cl (bC g t a0 x14 a4) fun x15=>
        br (g.le 0 x15)
        (
         br (g.le x15 a3)
         (
          cl (c8 g t a0 (Spot.mk a4 a3) (Scan.mk x2.1.Thing x2.1.At x2.1.Kind x2.1.Place (Trip.mk x2.1.Trip.Leg x2.1.Trip.Day)) x2.2) fun x16=>
          some x16)
         (
          some false))
        (
         some false))))
     (
      br (g.eq x1.1.Kind 3)
      (
       cl (bP g t a0 (Trip.mk x1.1.Trip.Leg x1.1.Trip.Day)) fun x17=>
       br (g.lt a3 x17)
       (
        cl (bg g t a0 (Trip.mk x1.1.Trip.Leg x1.1.Trip.Day)) fun x18=>
        br (g.lt a3 x18)
        (
         gd (((0:Int)≤x1.1.Trip.Leg))<|
         gt a0.Legs (g.nat x1.1.Trip.Leg) fun x19=>
         some (g.seq a4 x19.From))
        (
         some false))
       (
        cl (aV g t a0 (Scan.mk x1.1.Thing x1.1.At x1.1.Kind x1.1.Place (Trip.mk x1.1.Trip.Leg x1.1.Trip.Day))) fun x20=>
        cl (bC g t a0 x20 a4) fun x21=>
        br (g.le 0 x21)
        (
         br (g.le x21 a3)
         (
          cl (c8 g t a0 (Spot.mk a4 a3) (Scan.mk x2.1.Thing x2.1.At x2.1.Kind x2.1.Place (Trip.mk x2.1.Trip.Leg x2.1.Trip.Day)) x2.2) fun x22=>
          some x22)
         (
          some false))
        (
         some false)))
      (
       cl (aV g t a0 (Scan.mk x1.1.Thing x1.1.At x1.1.Kind x1.1.Place (Trip.mk x1.1.Trip.Leg x1.1.Trip.Day))) fun x23=>
       cl (bC g t a0 x23 a4) fun x24=>
       br (g.le 0 x24)
       (
        br (g.le x24 a3)
        (
         cl (c8 g t a0 (Spot.mk a4 a3) (Scan.mk x2.1.Thing x2.1.At x2.1.Kind x2.1.Place (Trip.mk x2.1.Trip.Leg x2.1.Trip.Day)) x2.2) fun x25=>
         some x25)
        (
         some false))
       (
        some false))))
    (
     br (g.eq x1.1.Kind 3)
     (
      cl (bP g t a0 (Trip.mk x1.1.Trip.Leg x1.1.Trip.Day)) fun x26=>
      br (g.lt a3 x26)
      (
       cl (bg g t a0 (Trip.mk x1.1.Trip.Leg x1.1.Trip.Day)) fun x27=>
       br (g.lt a3 x27)
       (
        gd (((0:Int)≤x1.1.Trip.Leg))<|
        gt a0.Legs (g.nat x1.1.Trip.Leg) fun x28=>
        some (g.seq a4 x28.From))
       (
        some false))
      (
       cl (aV g t a0 (Scan.mk x1.1.Thing x1.1.At x1.1.Kind x1.1.Place (Trip.mk x1.1.Trip.Leg x1.1.Trip.Day))) fun x29=>
       cl (bC g t a0 x29 a4) fun x30=>
       br (g.le 0 x30)
       (
        br (g.le x30 a3)
        (
         cl (c8 g t a0 (Spot.mk a4 a3) (Scan.mk x2.1.Thing x2.1.At x2.1.Kind x2.1.Place (Trip.mk x2.1.Trip.Leg x2.1.Trip.Day)) x2.2) fun x31=>
         some x31)
        (
         some false))
       (
        some false)))
     (
      cl (aV g t a0 (Scan.mk x1.1.Thing x1.1.At x1.1.Kind x1.1.Place (Trip.mk x1.1.Trip.Leg x1.1.Trip.Day))) fun x32=>
      cl (bC g t a0 x32 a4) fun x33=>
      br (g.le 0 x33)
      (
       br (g.le x33 a3)
       (
        cl (c8 g t a0 (Spot.mk a4 a3) (Scan.mk x2.1.Thing x2.1.At x2.1.Kind x2.1.Place (Trip.mk x2.1.Trip.Leg x2.1.Trip.Day)) x2.2) fun x34=>
        some x34)
       (
        some false))
      (
       some false))))))
 (
  some false)
theorem lT {g:G} {t:TE} {a0:Network} {a1:List Scan} {a2:Int} {a3:Int} {a4:ByteArray} {r:Bool} (hg:g=G.real) (ht:t=TE.real) (h:jh g t a0 a1 a2 a3 a4=some r):Fn Tryz.prog 42 [.g (Network.rs t a0),.c (.s 6 (t.r_Scan a1)),.c (.v (.int .i64 a2)),.c (.v (.int .i64 a3)),.c (.v (.string a4))] (.c (.r (.v (.bool r)))):=by
 obtain⟨X,hX⟩:=aH (.c (.r (.v (.bool r))):X);rw[←hX];refine aw (rvs:=rv42) (j:=ir42) Tryz.func42 rfl (by kernel_rfl) (nb rfl) (by kernel_rfl) af ?_;intro g2 F hg2 hF;obtain rfl:g2=g:=hg2.unique.trans hg.symm;clear hg2;obtain⟨_,lt,le,eq,_,_,_,_,_,_,_,_,_,_,_,_,_,_,_,_,_,_,_,_,dlen,_,_,_,rd⟩:=g2;obtain⟨_,_,_,_,_,_,r_S,d_S⟩:=t
 obtain⟨a0_Legs,a0_Off,a0_Change⟩:=a0;unfold jh at h;try dsimp only at h
 cbv;obtain⟨x1,hx1,h⟩:=ac h;obtain⟨⟨x1_1_Thing,x1_1_At,x1_1_Kind,x1_1_Place,⟨x1_1_Trip_Leg,x1_1_Trip_Day⟩⟩,x1_2⟩:=x1;try dsimp only at h
 refine ACall.mk _ _ rfl (hF _ _ _ (nu hg ht hx1)) (.inl rfl) (nb rfl) ?_;cbv;obtain⟨x2,hx2,h⟩:=ac h;obtain⟨⟨x2_1_Thing,x2_1_At,x2_1_Kind,x2_1_Place,⟨x2_1_Trip_Leg,x2_1_Trip_Day⟩⟩,x2_2⟩:=x2;try dsimp only at h
 refine ACall.mk _ _ rfl (hF _ _ _ (nr hg ht hx2)) (.inl rfl) (nb rfl) ?_;cbv;have hb1:x1_2=true∨x1_2=false:=by cases x1_2<;>simp
 rcases hb1 with hb1|hb1
 ·rw[ab hb1] at h;have hK_:=h;subst hb1;have h:=hK_;clear hK_;cbv;iterate 3 try(rw[hb1];cbv)
  cases hb2:(eq x1_1_Kind 4)
  rotate_left
  ·rw[ab hb2] at h;cbv;iterate 5 try(rw[hb2];cbv)
   obtain rfl:=Option.some.inj h;exact ARet.mk trivial hX.symm
  rw[aa hb2] at h;cbv;try(rw[hb2];cbv)
  obtain⟨x3,hx3,h⟩:=ac h;try dsimp only at h
  refine ACall.mk _ _ rfl (hF _ _ _ (fg hg ht hx3)) (.inl rfl) (nb rfl) ?_;cbv;iterate 2 try(rw[hb2];cbv)
  refine AStep.mk (dN ht (aq hg ht _)) ?_;cbv;obtain⟨x4,hx4,h⟩:=ak h;try dsimp only at h
  refine ACall.mk _ _ (by rw[show rd (d_S x3) 0 (dlen (d_S x3))=r_S x3 from fK hg ht (aq hg ht _)];try rfl) (hF _ _ _ (fR hg ht hx4)) (.inr rfl) (nb rfl) ?_
  cbv;iterate 2 try(rw[hb2];cbv)
  cases hb3:(lt x4 0)
  rotate_left
  ·rw[ab hb3] at h;cbv;obtain rfl:=Option.some.inj h;exact ARet.mk trivial hX.symm
  rw[aa hb3] at h;cbv;have hb4:x2_2=true∨x2_2=false:=by cases x2_2<;>simp
  rcases hb4 with hb4|hb4
  ·rw[ab hb4] at h;have hK_:=h;subst hb4;have h:=hK_;clear hK_;cbv;iterate 3 try(rw[hb4];cbv)
   cases hb5:(eq x2_1_Kind 2)
   ·rw[aa hb5] at h;cbv;iterate 6 try(rw[hb5];cbv)
    cases hb15:(eq x1_1_Kind 3)
    ·rw[aa hb15] at h;cbv;iterate 6 try(rw[hb15];cbv)
     obtain⟨x23,hx23,h⟩:=ac h;obtain⟨x23_Place,x23_At⟩:=x23;try dsimp only at h
     refine ACall.mk _ _ rfl (hF _ _ _ (a7 hg ht hx23)) (.inl rfl) (nb rfl) ?_;cbv;obtain⟨x24,hx24,h⟩:=ac h;try dsimp only at h
     refine ACall.mk _ _ rfl (hF _ _ _ (bw hg ht hx24)) (.inl rfl) (nb rfl) ?_;cbv
     cases hb20:(le 0 x24)
     ·rw[aa hb20] at h;cbv;iterate 3 try(rw[hb20];cbv)
      obtain rfl:=Option.some.inj h;exact ARet.mk trivial hX.symm
     rw[ab hb20] at h;cbv;iterate 3 try(rw[hb20];cbv)
     cases hb21:(le x24 a3)
     ·rw[aa hb21] at h;cbv;iterate 7 try(rw[hb21];cbv)
      obtain rfl:=Option.some.inj h;exact ARet.mk trivial hX.symm
     rw[ab hb21] at h;cbv;iterate 6 try(rw[hb21];cbv)
     obtain⟨x25,hx25,h⟩:=ac h;try dsimp only at h
     refine ACall.mk _ _ rfl (hF _ _ _ (c9 hg ht hx25)) (.inl rfl) (nb rfl) ?_;cbv;try(rw[hb21];cbv)
     obtain rfl:=Option.some.inj h;exact ARet.mk trivial hX.symm
    rw[ab hb15] at h;cbv;iterate 4 try(rw[hb15];cbv)
    obtain⟨x17,hx17,h⟩:=ac h;try dsimp only at h
    refine ACall.mk _ _ rfl (hF _ _ _ (bR hg ht hx17)) (.inl rfl) (nb rfl) ?_;cbv;iterate 2 try(rw[hb15];cbv)
    cases hb16:(lt a3 x17)
    rotate_left
    ·rw[ab hb16] at h;cbv;obtain⟨x18,hx18,h⟩:=ac h;try dsimp only at h
     refine ACall.mk _ _ rfl (hF _ _ _ (bq hg ht hx18)) (.inl rfl) (nb rfl) ?_;cbv
     cases hb17:(lt a3 x18)
     ·rw[aa hb17] at h;cbv;iterate 10 try(rw[hb17];cbv)
      obtain rfl:=Option.some.inj h;exact ARet.mk trivial hX.symm
     rw[ab hb17] at h;cbv;iterate 6 try(rw[hb17];cbv)
     obtain⟨hc3,h⟩:=al h;refine AStep.mk hc3 ?_;cbv;obtain⟨x19,hx19,h⟩:=aE h;obtain⟨x19_From,x19_To,x19_Start,x19_Takes,x19_Days,x19_Room⟩:=x19;try dsimp only at h
     refine AGet.mk _ (aF hg ht hx19) ?_;cbv;iterate 4 try(rw[hb17];cbv)
     obtain rfl:=Option.some.inj h;exact ARet.mk trivial hX.symm
    rw[aa hb16] at h;cbv;obtain⟨x20,hx20,h⟩:=ac h;obtain⟨x20_Place,x20_At⟩:=x20;try dsimp only at h
    refine ACall.mk _ _ rfl (hF _ _ _ (a7 hg ht hx20)) (.inl rfl) (nb rfl) ?_;cbv;obtain⟨x21,hx21,h⟩:=ac h;try dsimp only at h
    refine ACall.mk _ _ rfl (hF _ _ _ (bw hg ht hx21)) (.inl rfl) (nb rfl) ?_;cbv
    cases hb18:(le 0 x21)
    ·rw[aa hb18] at h;cbv;iterate 3 try(rw[hb18];cbv)
     obtain rfl:=Option.some.inj h;exact ARet.mk trivial hX.symm
    rw[ab hb18] at h;cbv;iterate 3 try(rw[hb18];cbv)
    cases hb19:(le x21 a3)
    ·rw[aa hb19] at h;cbv;iterate 7 try(rw[hb19];cbv)
     obtain rfl:=Option.some.inj h;exact ARet.mk trivial hX.symm
    rw[ab hb19] at h;cbv;iterate 6 try(rw[hb19];cbv)
    obtain⟨x22,hx22,h⟩:=ac h;try dsimp only at h
    refine ACall.mk _ _ rfl (hF _ _ _ (c9 hg ht hx22)) (.inl rfl) (nb rfl) ?_;cbv;try(rw[hb19];cbv)
    obtain rfl:=Option.some.inj h;exact ARet.mk trivial hX.symm
   rw[ab hb5] at h;cbv;iterate 3 try(rw[hb5];cbv)
   obtain⟨x5,hx5,h⟩:=ac h;try dsimp only at h
   refine ACall.mk _ _ rfl (hF _ _ _ (bq hg ht hx5)) (.inl rfl) (nb rfl) ?_;cbv;iterate 3 try(rw[hb5];cbv)
   cases hb6:(le x5 a3)
   rotate_left
   ·rw[ab hb6] at h;cbv;obtain⟨x6,hx6,h⟩:=ac h;try dsimp only at h
    refine ACall.mk _ _ rfl (hF _ _ _ (bR hg ht hx6)) (.inl rfl) (nb rfl) ?_;cbv
    cases hb7:(le x6 a3)
    ·rw[aa hb7] at h;cbv;iterate 10 try(rw[hb7];cbv)
     obtain rfl:=Option.some.inj h;exact ARet.mk trivial hX.symm
    rw[ab hb7] at h;cbv;iterate 6 try(rw[hb7];cbv)
    obtain⟨hc1,h⟩:=al h;refine AStep.mk hc1 ?_;cbv;obtain⟨x7,hx7,h⟩:=aE h;obtain⟨x7_From,x7_To,x7_Start,x7_Takes,x7_Days,x7_Room⟩:=x7;try dsimp only at h
    refine AGet.mk _ (aF hg ht hx7) ?_;cbv;iterate 4 try(rw[hb7];cbv)
    obtain rfl:=Option.some.inj h;exact ARet.mk trivial hX.symm
   rw[aa hb6] at h;cbv
   cases hb8:(eq x1_1_Kind 3)
   ·rw[aa hb8] at h;cbv;iterate 6 try(rw[hb8];cbv)
    obtain⟨x14,hx14,h⟩:=ac h;obtain⟨x14_Place,x14_At⟩:=x14;try dsimp only at h
    refine ACall.mk _ _ rfl (hF _ _ _ (a7 hg ht hx14)) (.inl rfl) (nb rfl) ?_;cbv;obtain⟨x15,hx15,h⟩:=ac h;try dsimp only at h
    refine ACall.mk _ _ rfl (hF _ _ _ (bw hg ht hx15)) (.inl rfl) (nb rfl) ?_;cbv
    cases hb13:(le 0 x15)
    ·rw[aa hb13] at h;cbv;iterate 3 try(rw[hb13];cbv)
     obtain rfl:=Option.some.inj h;exact ARet.mk trivial hX.symm
    rw[ab hb13] at h;cbv;iterate 3 try(rw[hb13];cbv)
    cases hb14:(le x15 a3)
    ·rw[aa hb14] at h;cbv;iterate 7 try(rw[hb14];cbv)
     obtain rfl:=Option.some.inj h;exact ARet.mk trivial hX.symm
    rw[ab hb14] at h;cbv;iterate 6 try(rw[hb14];cbv)
    obtain⟨x16,hx16,h⟩:=ac h;try dsimp only at h
    refine ACall.mk _ _ rfl (hF _ _ _ (c9 hg ht hx16)) (.inl rfl) (nb rfl) ?_;cbv;try(rw[hb14];cbv)
    obtain rfl:=Option.some.inj h;exact ARet.mk trivial hX.symm
   rw[ab hb8] at h;cbv;iterate 4 try(rw[hb8];cbv)
   obtain⟨x8,hx8,h⟩:=ac h;try dsimp only at h
   refine ACall.mk _ _ rfl (hF _ _ _ (bR hg ht hx8)) (.inl rfl) (nb rfl) ?_;cbv;iterate 2 try(rw[hb8];cbv)
   cases hb9:(lt a3 x8)
   rotate_left
   ·rw[ab hb9] at h;cbv;obtain⟨x9,hx9,h⟩:=ac h;try dsimp only at h
    refine ACall.mk _ _ rfl (hF _ _ _ (bq hg ht hx9)) (.inl rfl) (nb rfl) ?_;cbv
    cases hb10:(lt a3 x9)
    ·rw[aa hb10] at h;cbv;iterate 10 try(rw[hb10];cbv)
     obtain rfl:=Option.some.inj h;exact ARet.mk trivial hX.symm
    rw[ab hb10] at h;cbv;iterate 6 try(rw[hb10];cbv)
    obtain⟨hc2,h⟩:=al h;refine AStep.mk hc2 ?_;cbv;obtain⟨x10,hx10,h⟩:=aE h;obtain⟨x10_From,x10_To,x10_Start,x10_Takes,x10_Days,x10_Room⟩:=x10;try dsimp only at h
    refine AGet.mk _ (aF hg ht hx10) ?_;cbv;iterate 4 try(rw[hb10];cbv)
    obtain rfl:=Option.some.inj h;exact ARet.mk trivial hX.symm
   rw[aa hb9] at h;cbv;obtain⟨x11,hx11,h⟩:=ac h;obtain⟨x11_Place,x11_At⟩:=x11;try dsimp only at h
   refine ACall.mk _ _ rfl (hF _ _ _ (a7 hg ht hx11)) (.inl rfl) (nb rfl) ?_;cbv;obtain⟨x12,hx12,h⟩:=ac h;try dsimp only at h
   refine ACall.mk _ _ rfl (hF _ _ _ (bw hg ht hx12)) (.inl rfl) (nb rfl) ?_;cbv
   cases hb11:(le 0 x12)
   ·rw[aa hb11] at h;cbv;iterate 3 try(rw[hb11];cbv)
    obtain rfl:=Option.some.inj h;exact ARet.mk trivial hX.symm
   rw[ab hb11] at h;cbv;iterate 3 try(rw[hb11];cbv)
   cases hb12:(le x12 a3)
   ·rw[aa hb12] at h;cbv;iterate 7 try(rw[hb12];cbv)
    obtain rfl:=Option.some.inj h;exact ARet.mk trivial hX.symm
   rw[ab hb12] at h;cbv;iterate 6 try(rw[hb12];cbv)
   obtain⟨x13,hx13,h⟩:=ac h;try dsimp only at h
   refine ACall.mk _ _ rfl (hF _ _ _ (c9 hg ht hx13)) (.inl rfl) (nb rfl) ?_;cbv;try(rw[hb12];cbv)
   obtain rfl:=Option.some.inj h;exact ARet.mk trivial hX.symm
  rw[aa hb4] at h;have hK_:=h;subst hb4;have h:=hK_;clear hK_;cbv;iterate 3 try(rw[hb4];cbv)
  cases hb22:(eq x1_1_Kind 3)
  ·rw[aa hb22] at h;cbv;iterate 6 try(rw[hb22];cbv)
   obtain⟨x32,hx32,h⟩:=ac h;obtain⟨x32_Place,x32_At⟩:=x32;try dsimp only at h
   refine ACall.mk _ _ rfl (hF _ _ _ (a7 hg ht hx32)) (.inl rfl) (nb rfl) ?_;cbv;obtain⟨x33,hx33,h⟩:=ac h;try dsimp only at h
   refine ACall.mk _ _ rfl (hF _ _ _ (bw hg ht hx33)) (.inl rfl) (nb rfl) ?_;cbv
   cases hb27:(le 0 x33)
   ·rw[aa hb27] at h;cbv;iterate 3 try(rw[hb27];cbv)
    obtain rfl:=Option.some.inj h;exact ARet.mk trivial hX.symm
   rw[ab hb27] at h;cbv;iterate 3 try(rw[hb27];cbv)
   cases hb28:(le x33 a3)
   ·rw[aa hb28] at h;cbv;iterate 7 try(rw[hb28];cbv)
    obtain rfl:=Option.some.inj h;exact ARet.mk trivial hX.symm
   rw[ab hb28] at h;cbv;iterate 6 try(rw[hb28];cbv)
   obtain⟨x34,hx34,h⟩:=ac h;try dsimp only at h
   refine ACall.mk _ _ rfl (hF _ _ _ (c9 hg ht hx34)) (.inl rfl) (nb rfl) ?_;cbv;try(rw[hb28];cbv)
   obtain rfl:=Option.some.inj h;exact ARet.mk trivial hX.symm
  rw[ab hb22] at h;cbv;iterate 4 try(rw[hb22];cbv)
  obtain⟨x26,hx26,h⟩:=ac h;try dsimp only at h
  refine ACall.mk _ _ rfl (hF _ _ _ (bR hg ht hx26)) (.inl rfl) (nb rfl) ?_;cbv;iterate 2 try(rw[hb22];cbv)
  cases hb23:(lt a3 x26)
  rotate_left
  ·rw[ab hb23] at h;cbv;obtain⟨x27,hx27,h⟩:=ac h;try dsimp only at h
   refine ACall.mk _ _ rfl (hF _ _ _ (bq hg ht hx27)) (.inl rfl) (nb rfl) ?_;cbv
   cases hb24:(lt a3 x27)
   ·rw[aa hb24] at h;cbv;iterate 10 try(rw[hb24];cbv)
    obtain rfl:=Option.some.inj h;exact ARet.mk trivial hX.symm
   rw[ab hb24] at h;cbv;iterate 6 try(rw[hb24];cbv)
   obtain⟨hc4,h⟩:=al h;refine AStep.mk hc4 ?_;cbv;obtain⟨x28,hx28,h⟩:=aE h;obtain⟨x28_From,x28_To,x28_Start,x28_Takes,x28_Days,x28_Room⟩:=x28;try dsimp only at h
   refine AGet.mk _ (aF hg ht hx28) ?_;cbv;iterate 4 try(rw[hb24];cbv)
   obtain rfl:=Option.some.inj h;exact ARet.mk trivial hX.symm
  rw[aa hb23] at h;cbv;obtain⟨x29,hx29,h⟩:=ac h;obtain⟨x29_Place,x29_At⟩:=x29;try dsimp only at h
  refine ACall.mk _ _ rfl (hF _ _ _ (a7 hg ht hx29)) (.inl rfl) (nb rfl) ?_;cbv;obtain⟨x30,hx30,h⟩:=ac h;try dsimp only at h
  refine ACall.mk _ _ rfl (hF _ _ _ (bw hg ht hx30)) (.inl rfl) (nb rfl) ?_;cbv
  cases hb25:(le 0 x30)
  ·rw[aa hb25] at h;cbv;iterate 3 try(rw[hb25];cbv)
   obtain rfl:=Option.some.inj h;exact ARet.mk trivial hX.symm
  rw[ab hb25] at h;cbv;iterate 3 try(rw[hb25];cbv)
  cases hb26:(le x30 a3)
  ·rw[aa hb26] at h;cbv;iterate 7 try(rw[hb26];cbv)
   obtain rfl:=Option.some.inj h;exact ARet.mk trivial hX.symm
  rw[ab hb26] at h;cbv;iterate 6 try(rw[hb26];cbv)
  obtain⟨x31,hx31,h⟩:=ac h;try dsimp only at h
  refine ACall.mk _ _ rfl (hF _ _ _ (c9 hg ht hx31)) (.inl rfl) (nb rfl) ?_;cbv;try(rw[hb26];cbv)
  obtain rfl:=Option.some.inj h;exact ARet.mk trivial hX.symm
 rw[aa hb1] at h;have hK_:=h;subst hb1;have h:=hK_;clear hK_;cbv;iterate 3 try(rw[hb1];cbv)
 obtain rfl:=Option.some.inj h;exact ARet.mk trivial hX.symm
def ir89:J:=js [jq 4 (.box 0),jq 8 (.alloc [.n 6,.n 1,.r (.v (.int .i64 0)),.r (.v (.int .i64 0)),.r (.v (.bool false)),.r (.v (.string .empty)),.r (.v (.int .i64 0)),.r (.v (.int .i64 0)),.r (.v (.bool false)),.r (.v (.bool false)),.r (.v (.string .empty)),.r (.v (.int .i64 0)),.r (.v (.string .empty)),.r (.v (.int .i64 0)),.r (.v (.bool false))])] [1,2,3,4,8] (js [jl 14 3 4,jm 15 3,jq 16 (.bld [.n 6,.n 1,.r (.v (.int .i64 0)),.r (.v (.int .i64 0)),.r (.v (.bool false)),.r (.v (.string .empty)),.r (.v (.int .i64 0)),.r (.v (.int .i64 0)),.r (.v (.bool false)),.r (.v (.bool false)),.r (.v (.string .empty)),.r (.v (.int .i64 0)),.r (.v (.string .empty)),.r (.v (.int .i64 0)),.r (.v (.bool false))] [(0,3,14),(3,1,15)]),jq 9 (.alloc [.n 6,.n 1,.r (.v (.int .i64 0)),.r (.v (.int .i64 0)),.r (.v (.bool false)),.r (.v (.string .empty)),.r (.v (.int .i64 0)),.r (.v (.int .i64 0)),.r (.v (.bool false)),.r (.v (.bool false)),.r (.v (.string .empty)),.r (.v (.int .i64 0)),.r (.v (.string .empty)),.r (.v (.int .i64 0)),.r (.v (.bool false))]),jp (.st 15 9 16)] [1,2,3,4,8,9] (js [jl 18 3 4,jm 19 1,jm 20 2,jm 21 3,jc 22 36 [18,19,20,21],jm 17 22,jq 23 (.ext 0 17),jq 24 (.ext 1 17),jq 10 (.alloc [.r (.v (.int .i64 0)),.r (.v (.int .i64 0)),.r (.v (.int .i64 0)),.r (.v (.string .empty)),.r (.v (.int .i64 0)),.r (.v (.int .i64 0))]),jp (.st 6 10 23),jm 11 24] [1,2,3,4,8,9,10,11] (js [jl 26 3 4,jm 27 1,jm 28 2,jm 29 3,jc 30 39 [26,27,28,29],jm 25 30,jq 31 (.ext 0 25),jq 32 (.ext 1 25),jq 12 (.alloc [.r (.v (.int .i64 0)),.r (.v (.int .i64 0)),.r (.v (.int .i64 0)),.r (.v (.string .empty)),.r (.v (.int .i64 0)),.r (.v (.int .i64 0))]),jp (.st 6 12 31),jm 13 32] [3,4,8,9,10,11,12,13] (.seq (.block 0 (js [jm 45 11,jq 46 (.not 45),jm 47 46,jv 48 47 (.fa 2 10),jv 49 47 (.ld false 1 48),jv 50 47 (.bin .eql .i 49 (ki 4)),jq 51 (.pick 47 kt 50),jm 44 51] [3,4,8,9,10,12,13,44] (.cond 44 (js [jl 52 15 9,jp (.st 15 8 52)] [8] .ret) (js [jm 54 13,jm 55 54,ju 56 55 (.fa 2 12),ju 57 55 (.ld false 1 56),ju 58 55 (.bin .eql .i 57 (ki 2)),jq 59 (.pick 55 58 kf),jm 60 59,ju 61 60 (.ld true 3 4),ju 62 60 (.fa 4 12),ju 63 60 (.ld true 2 62),ju 64 60 (.call 105 true [61,63]),ju 65 60 (.mv 3),ju 66 60 (.bin .leq .i 64 65),jq 67 (.pick 60 66 kf),jm 53 67] [3,4,8,9,10,12,13,53] (.cond 53 (js [jf 68 4 9,jp (.st 1 68 kt)] [3,4,8,9,12] (js [jm 69 3,jl 70 3 4,jf 71 4 12,jl 72 2 71,jc 73 106 [70,72],jb 74 .lss .i 69 73,jf 75 8 9,jp (.st 1 75 74)] [4,8,9,12] (js [jf 76 4 12,jl 77 2 76,jf 78 6 9,jp (.st 2 78 77)] [4,8,9,12] (.reg none [jf 79 0 4,jk 80 79,jf 81 4 12,jf 82 0 81,jk 83 82,ja 84 6 80 83,jf 85 1 84,jk 86 85,jf 87 5 9,jp (.st 1 87 86)] [8,9])))) (js [jf 89 2 10,jk 90 89,jb 91 .eql .i 90 (ki 3),jm 92 91,ju 93 92 (.ld true 3 4),ju 94 92 (.fa 4 10),ju 95 92 (.ld true 2 94),ju 96 92 (.call 106 true [93,
 95]),ju 97 92 (.mv 3),ju 98 92 (.bin .gtr .i 96 97),jq 99 (.pick 92 98 kf),jm 88 99] [3,4,8,9,10,12,13,88] (.cond 88 (js [jf 100 4 9,jp (.st 1 100 kt)] [3,4,8,9,10] (js [jl 101 3 4,jf 102 4 10,jl 103 2 102,jc 104 105 [101,103],jm 105 3,jb 106 .leq .i 104 105,jf 107 8 9,jp (.st 1 107 106)] [4,8,9,10] (js [jf 108 4 10,jl 109 2 108,jf 110 6 9,jp (.st 2 110 109)] [4,8,9,10] (.reg none [jf 111 0 4,jk 112 111,jf 113 4 10,jf 114 0 113,jk 115 114,ja 116 6 112 115,jf 117 0 116,jk 118 117,jf 119 5 9,jp (.st 1 119 118)] [8,9])))) (js [jf 33 9 9,jp (.st 1 33 kt)] [4,8,9,10,12,13] (js [jl 34 3 4,jl 35 6 10,jc 36 83 [34,35],jf 37 10 9,jp (.st 2 37 36)] [4,8,9,12,13] (js [jm 38 13,jf 39 14 9,jp (.st 1 39 38)] [4,8,9,12] (.reg none [jl 40 3 4,jl 41 6 12,jc 42 117 [40,41],jf 43 12 9,jp (.st 2 43 42)] [8,9]))))))))))) (js [jl 120 15 9,jp (.st 15 8 120)] [8] .ret)))))
def rv89:List RV:=[.c 8 true 15]
def jS (g:G) (t:TE) (a0:Network) (a1:List Scan) (a2:Int) (a3:Int):Option Know:=
 cl (iU g t a0 a1 a2 a3) fun x1=>
 cl (iW g t a0 a1 a2 a3) fun x2=>
 br x1.2
 (
  br (g.eq x1.1.Kind 4)
  (
   some (Know.mk a0 a3 false ByteArray.empty (Trip.mk 0 0) false false (Spot.mk ByteArray.empty 0) (Spot.mk ByteArray.empty 0) false))
  (
   br x2.2
   (
    br (g.eq x2.1.Kind 2)
    (
     cl (dX g t a0 (Trip.mk x2.1.Trip.Leg x2.1.Trip.Day)) fun x3=>
     br (g.le x3 a3)
     (
      cl (iv g t a0 (Trip.mk x2.1.Trip.Leg x2.1.Trip.Day)) fun x4=>
      gd (((0:Int)≤x2.1.Trip.Leg))<|
      gt a0.Legs (g.nat x2.1.Trip.Leg) fun x5=>
      some (Know.mk a0 a3 true x5.To (Trip.mk x2.1.Trip.Leg x2.1.Trip.Day) (g.lt a3 x4) false (Spot.mk ByteArray.empty 0) (Spot.mk ByteArray.empty 0) false))
     (
      br (g.eq x1.1.Kind 3)
      (
       cl (iv g t a0 (Trip.mk x1.1.Trip.Leg x1.1.Trip.Day)) fun x6=>
       br (g.lt a3 x6)
       (
        cl (dX g t a0 (Trip.mk x1.1.Trip.Leg x1.1.Trip.Day)) fun x7=>
        gd (((0:Int)≤x1.1.Trip.Leg))<|
        gt a0.Legs (g.nat x1.1.Trip.Leg) fun x8=>
        some (Know.mk a0 a3 true x8.From (Trip.mk x1.1.Trip.Leg x1.1.Trip.Day) (g.le x7 a3) false (Spot.mk ByteArray.empty 0) (Spot.mk ByteArray.empty 0) false))
       (
        cl (bJ g t a0 (Scan.mk x1.1.Thing x1.1.At x1.1.Kind x1.1.Place (Trip.mk x1.1.Trip.Leg x1.1.Trip.Day))) fun x9=>
        cl (bX g t a0 (Scan.mk x2.1.Thing x2.1.At x2.1.Kind x2.1.Place (Trip.mk x2.1.Trip.Leg x2.1.Trip.Day))) fun x10=>
        some (Know.mk a0 a3 false ByteArray.empty (Trip.mk 0 0) false true x9 x10 x2.2)))
      (
       cl (bJ g t a0 (Scan.mk x1.1.Thing x1.1.At x1.1.Kind x1.1.Place (Trip.mk x1.1.Trip.Leg x1.1.Trip.Day))) fun x11=>
       cl (bX g t a0 (Scan.mk x2.1.Thing x2.1.At x2.1.Kind x2.1.Place (Trip.mk x2.1.Trip.Leg x2.1.Trip.Day))) fun x12=>
       some (Know.mk a0 a3 false ByteArray.empty (Trip.mk 0 0) false true x11 x12 x2.2))))
    (
     br (g.eq x1.1.Kind 3)
     (
      cl (iv g t a0 (Trip.mk x1.1.Trip.Leg x1.1.Trip.Day)) fun x13=>
      br (g.lt a3 x13)
      (
       cl (dX g t a0 (Trip.mk x1.1.Trip.Leg x1.1.Trip.Day)) fun x14=>
       gd (((0:Int)≤x1.1.Trip.Leg))<|
       gt a0.Legs (g.nat x1.1.Trip.Leg) fun x15=>
       some (Know.mk a0 a3 true x15.From (Trip.mk x1.1.Trip.Leg x1.1.Trip.Day) (g.le x14 a3) false (Spot.mk ByteArray.empty 0) (Spot.mk ByteArray.empty 0) false))
      (
       cl (bJ g t a0 (Scan.mk x1.1.Thing x1.1.At x1.1.Kind x1.1.Place (Trip.mk x1.1.Trip.Leg x1.1.Trip.Day))) fun x16=>
       cl (bX g t a0 (Scan.mk x2.1.Thing x2.1.At x2.1.Kind x2.1.Place (Trip.mk x2.1.Trip.Leg x2.1.Trip.Day))) fun x17=>
       some (Know.mk a0 a3 false ByteArray.empty (Trip.mk 0 0) false true x16 x17 x2.2)))
     (
      cl (bJ g t a0 (Scan.mk x1.1.Thing x1.1.At x1.1.Kind x1.1.Place (Trip.mk x1.1.Trip.Leg x1.1.Trip.Day))) fun x18=>
      cl (bX g t a0 (Scan.mk x2.1.Thing x2.1.At x2.1.Kind x2.1.Place (Trip.mk x2.1.Trip.Leg x2.1.Trip.Day))) fun x19=>
      some (Know.mk a0 a3 false ByteArray.empty (Trip.mk 0 0) false true x18 x19 x2.2))))
   (
    br (g.eq x1.1.Kind 3)
    (
     cl (iv g t a0 (Trip.mk x1.1.Trip.Leg x1.1.Trip.Day)) fun x20=>
     br (g.lt a3 x20)
     (
      cl (dX g t a0 (Trip.mk x1.1.Trip.Leg x1.1.Trip.Day)) fun x21=>
      gd (((0:Int)≤x1.1.Trip.Leg))<|
      gt a0.Legs (g.nat x1.1.Trip.Leg) fun x22=>
      some (Know.mk a0 a3 true x22.From (Trip.mk x1.1.Trip.Leg x1.1.Trip.Day) (g.le x21 a3) false (Spot.mk ByteArray.empty 0) (Spot.mk ByteArray.empty 0) false))
     (
      cl (bJ g t a0 (Scan.mk x1.1.Thing x1.1.At x1.1.Kind x1.1.Place (Trip.mk x1.1.Trip.Leg x1.1.Trip.Day))) fun x23=>
      cl (bX g t a0 (Scan.mk x2.1.Thing x2.1.At x2.1.Kind x2.1.Place (Trip.mk x2.1.Trip.Leg x2.1.Trip.Day))) fun x24=>
      some (Know.mk a0 a3 false ByteArray.empty (Trip.mk 0 0) false true x23 x24 x2.2)))
    (
     cl (bJ g t a0 (Scan.mk x1.1.Thing x1.1.At x1.1.Kind x1.1.Place (Trip.mk x1.1.Trip.Leg x1.1.Trip.Day))) fun x25=>
     cl (bX g t a0 (Scan.mk x2.1.Thing x2.1.At x2.1.Kind x2.1.Place (Trip.mk x2.1.Trip.Leg x2.1.Trip.Day))) fun x26=>
     some (Know.mk a0 a3 false ByteArray.empty (Trip.mk 0 0) false true x25 x26 x2.2)))))
 (
  some (Know.mk a0 a3 false ByteArray.empty (Trip.mk 0 0) false false (Spot.mk ByteArray.empty 0) (Spot.mk ByteArray.empty 0) false))
theorem ou {g:G} {t:TE} {a0:Network} {a1:List Scan} {a2:Int} {a3:Int} {r:Know} (hg:g=G.real) (ht:t=TE.real) (h:jS g t a0 a1 a2 a3=some r):Fn Tryz.prog 89 [.g (Network.rs t a0),.c (.s 6 (t.r_Scan a1)),.c (.v (.int .i64 a2)),.c (.v (.int .i64 a3))] (.g (Know.ds t r)):=by
 obtain⟨X,hX⟩:=aH (.g (Know.ds t r):X);rw[←hX];refine aw (rvs:=rv89) (j:=ir89) Tryz.func89 rfl (by kernel_rfl) (nb rfl) (by kernel_rfl) af ?_;intro g2 F hg2 hF;obtain rfl:g2=g:=hg2.unique.trans hg.symm;clear hg2;obtain⟨_,lt,le,eq⟩:=g2;obtain⟨_⟩:=t
 obtain⟨a0_Legs,a0_Off,a0_Change⟩:=a0;unfold jS at h;try dsimp only at h
 cbv;obtain⟨x1,hx1,h⟩:=ac h;obtain⟨⟨x1_1_Thing,x1_1_At,x1_1_Kind,x1_1_Place,⟨x1_1_Trip_Leg,x1_1_Trip_Day⟩⟩,x1_2⟩:=x1;try dsimp only at h
 refine ACall.mk _ _ rfl (hF _ _ _ (qq hg ht hx1)) (.inl rfl) (nb rfl) ?_;cbv;obtain⟨x2,hx2,h⟩:=ac h;obtain⟨⟨x2_1_Thing,x2_1_At,x2_1_Kind,x2_1_Place,⟨x2_1_Trip_Leg,x2_1_Trip_Day⟩⟩,x2_2⟩:=x2;try dsimp only at h
 refine ACall.mk _ _ rfl (hF _ _ _ (p8 hg ht hx2)) (.inl rfl) (nb rfl) ?_;cbv;have hb1:x1_2=true∨x1_2=false:=by cases x1_2<;>simp
 rcases hb1 with hb1|hb1
 ·rw[ab hb1] at h;have hK_:=h;subst hb1;have h:=hK_;clear hK_;cbv;iterate 3 try(rw[hb1];cbv)
  cases hb2:(eq x1_1_Kind 4)
  rotate_left
  ·rw[ab hb2] at h;cbv;obtain rfl:=Option.some.inj h;exact ARet.mk trivial hX.symm
  rw[aa hb2] at h;cbv;have hb3:x2_2=true∨x2_2=false:=by cases x2_2<;>simp
  rcases hb3 with hb3|hb3
  ·rw[ab hb3] at h;have hK_:=h;subst hb3;have h:=hK_;clear hK_;cbv;iterate 3 try(rw[hb3];cbv)
   cases hb4:(eq x2_1_Kind 2)
   ·rw[aa hb4] at h;cbv;iterate 6 try(rw[hb4];cbv)
    cases hb8:(eq x1_1_Kind 3)
    ·rw[aa hb8] at h;cbv;iterate 6 try(rw[hb8];cbv)
     obtain⟨x18,hx18,h⟩:=ac h;obtain⟨x18_Place,x18_At⟩:=x18;try dsimp only at h
     refine ACall.mk _ _ rfl (hF _ _ _ (cr hg ht hx18)) (.inl rfl) (nb rfl) ?_;cbv;obtain⟨x19,hx19,h⟩:=ac h;obtain⟨x19_Place,x19_At⟩:=x19;try dsimp only at h
     refine ACall.mk _ _ rfl (hF _ _ _ (c6 hg ht hx19)) (.inl rfl) (nb rfl) ?_;cbv;obtain rfl:=Option.some.inj h;exact ARet.mk trivial hX.symm
    rw[ab hb8] at h;cbv;iterate 3 try(rw[hb8];cbv)
    obtain⟨x13,hx13,h⟩:=ac h;try dsimp only at h
    refine ACall.mk _ _ rfl (hF _ _ _ (gM hg ht hx13)) (.inl rfl) (nb rfl) ?_;cbv;iterate 3 try(rw[hb8];cbv)
    cases hb9:(lt a3 x13)
    ·rw[aa hb9] at h;cbv;obtain⟨x16,hx16,h⟩:=ac h;obtain⟨x16_Place,x16_At⟩:=x16;try dsimp only at h
     refine ACall.mk _ _ rfl (hF _ _ _ (cr hg ht hx16)) (.inl rfl) (nb rfl) ?_;cbv;obtain⟨x17,hx17,h⟩:=ac h;obtain⟨x17_Place,x17_At⟩:=x17;try dsimp only at h
     refine ACall.mk _ _ rfl (hF _ _ _ (c6 hg ht hx17)) (.inl rfl) (nb rfl) ?_;cbv;obtain rfl:=Option.some.inj h;exact ARet.mk trivial hX.symm
    rw[ab hb9] at h;cbv;obtain⟨x14,hx14,h⟩:=ac h;try dsimp only at h
    refine ACall.mk _ _ rfl (hF _ _ _ (eL hg ht hx14)) (.inl rfl) (nb rfl) ?_;cbv;obtain⟨hc3,h⟩:=al h;refine AStep.mk hc3 ?_;cbv;obtain⟨x15,hx15,h⟩:=aE h;obtain⟨x15_From,x15_To,x15_Start,x15_Takes,x15_Days,x15_Room⟩:=x15;try dsimp only at h
    refine AGet.mk _ (aF hg ht hx15) ?_;cbv;obtain rfl:=Option.some.inj h;exact ARet.mk trivial hX.symm
   rw[ab hb4] at h;cbv;iterate 3 try(rw[hb4];cbv)
   obtain⟨x3,hx3,h⟩:=ac h;try dsimp only at h
   refine ACall.mk _ _ rfl (hF _ _ _ (eL hg ht hx3)) (.inl rfl) (nb rfl) ?_;cbv;iterate 3 try(rw[hb4];cbv)
   cases hb5:(le x3 a3)
   rotate_left
   ·rw[ab hb5] at h;cbv;obtain⟨x4,hx4,h⟩:=ac h;try dsimp only at h
    refine ACall.mk _ _ rfl (hF _ _ _ (gM hg ht hx4)) (.inl rfl) (nb rfl) ?_;cbv;obtain⟨hc1,h⟩:=al h;refine AStep.mk hc1 ?_;cbv;obtain⟨x5,hx5,h⟩:=aE h;obtain⟨x5_From,x5_To,x5_Start,x5_Takes,x5_Days,x5_Room⟩:=x5;try dsimp only at h
    refine AGet.mk _ (aF hg ht hx5) ?_;cbv;obtain rfl:=Option.some.inj h;exact ARet.mk trivial hX.symm
   rw[aa hb5] at h;cbv
   cases hb6:(eq x1_1_Kind 3)
   ·rw[aa hb6] at h;cbv;iterate 6 try(rw[hb6];cbv)
    obtain⟨x11,hx11,h⟩:=ac h;obtain⟨x11_Place,x11_At⟩:=x11;try dsimp only at h
    refine ACall.mk _ _ rfl (hF _ _ _ (cr hg ht hx11)) (.inl rfl) (nb rfl) ?_;cbv;obtain⟨x12,hx12,h⟩:=ac h;obtain⟨x12_Place,x12_At⟩:=x12;try dsimp only at h
    refine ACall.mk _ _ rfl (hF _ _ _ (c6 hg ht hx12)) (.inl rfl) (nb rfl) ?_;cbv;obtain rfl:=Option.some.inj h;exact ARet.mk trivial hX.symm
   rw[ab hb6] at h;cbv;iterate 3 try(rw[hb6];cbv)
   obtain⟨x6,hx6,h⟩:=ac h;try dsimp only at h
   refine ACall.mk _ _ rfl (hF _ _ _ (gM hg ht hx6)) (.inl rfl) (nb rfl) ?_;cbv;iterate 3 try(rw[hb6];cbv)
   cases hb7:(lt a3 x6)
   ·rw[aa hb7] at h;cbv;obtain⟨x9,hx9,h⟩:=ac h;obtain⟨x9_Place,x9_At⟩:=x9;try dsimp only at h
    refine ACall.mk _ _ rfl (hF _ _ _ (cr hg ht hx9)) (.inl rfl) (nb rfl) ?_;cbv;obtain⟨x10,hx10,h⟩:=ac h;obtain⟨x10_Place,x10_At⟩:=x10;try dsimp only at h
    refine ACall.mk _ _ rfl (hF _ _ _ (c6 hg ht hx10)) (.inl rfl) (nb rfl) ?_;cbv;obtain rfl:=Option.some.inj h;exact ARet.mk trivial hX.symm
   rw[ab hb7] at h;cbv;obtain⟨x7,hx7,h⟩:=ac h;try dsimp only at h
   refine ACall.mk _ _ rfl (hF _ _ _ (eL hg ht hx7)) (.inl rfl) (nb rfl) ?_;cbv;obtain⟨hc2,h⟩:=al h;refine AStep.mk hc2 ?_;cbv;obtain⟨x8,hx8,h⟩:=aE h;obtain⟨x8_From,x8_To,x8_Start,x8_Takes,x8_Days,x8_Room⟩:=x8;try dsimp only at h
   refine AGet.mk _ (aF hg ht hx8) ?_;cbv;obtain rfl:=Option.some.inj h;exact ARet.mk trivial hX.symm
  rw[aa hb3] at h;have hK_:=h;subst hb3;have h:=hK_;clear hK_;cbv;iterate 3 try(rw[hb3];cbv)
  cases hb10:(eq x1_1_Kind 3)
  ·rw[aa hb10] at h;cbv;iterate 6 try(rw[hb10];cbv)
   obtain⟨x25,hx25,h⟩:=ac h;obtain⟨x25_Place,x25_At⟩:=x25;try dsimp only at h
   refine ACall.mk _ _ rfl (hF _ _ _ (cr hg ht hx25)) (.inl rfl) (nb rfl) ?_;cbv;obtain⟨x26,hx26,h⟩:=ac h;obtain⟨x26_Place,x26_At⟩:=x26;try dsimp only at h
   refine ACall.mk _ _ rfl (hF _ _ _ (c6 hg ht hx26)) (.inl rfl) (nb rfl) ?_;cbv;obtain rfl:=Option.some.inj h;exact ARet.mk trivial hX.symm
  rw[ab hb10] at h;cbv;iterate 3 try(rw[hb10];cbv)
  obtain⟨x20,hx20,h⟩:=ac h;try dsimp only at h
  refine ACall.mk _ _ rfl (hF _ _ _ (gM hg ht hx20)) (.inl rfl) (nb rfl) ?_;cbv;iterate 3 try(rw[hb10];cbv)
  cases hb11:(lt a3 x20)
  ·rw[aa hb11] at h;cbv;obtain⟨x23,hx23,h⟩:=ac h;obtain⟨x23_Place,x23_At⟩:=x23;try dsimp only at h
   refine ACall.mk _ _ rfl (hF _ _ _ (cr hg ht hx23)) (.inl rfl) (nb rfl) ?_;cbv;obtain⟨x24,hx24,h⟩:=ac h;obtain⟨x24_Place,x24_At⟩:=x24;try dsimp only at h
   refine ACall.mk _ _ rfl (hF _ _ _ (c6 hg ht hx24)) (.inl rfl) (nb rfl) ?_;cbv;obtain rfl:=Option.some.inj h;exact ARet.mk trivial hX.symm
  rw[ab hb11] at h;cbv;obtain⟨x21,hx21,h⟩:=ac h;try dsimp only at h
  refine ACall.mk _ _ rfl (hF _ _ _ (eL hg ht hx21)) (.inl rfl) (nb rfl) ?_;cbv;obtain⟨hc4,h⟩:=al h;refine AStep.mk hc4 ?_;cbv;obtain⟨x22,hx22,h⟩:=aE h;obtain⟨x22_From,x22_To,x22_Start,x22_Takes,x22_Days,x22_Room⟩:=x22;try dsimp only at h
  refine AGet.mk _ (aF hg ht hx22) ?_;cbv;obtain rfl:=Option.some.inj h;exact ARet.mk trivial hX.symm
 rw[aa hb1] at h;have hK_:=h;subst hb1;have h:=hK_;clear hK_;cbv;iterate 3 try(rw[hb1];cbv)
 obtain rfl:=Option.some.inj h;exact ARet.mk trivial hX.symm
def JB:J:=js [jq 5 (.box 0),jm 10 kf] [1,2,3,4,5] (.seq (js [jm 12 1,jm 13 3,jb 14 .eql .s 12 13] [1,2,3,4,5,14] (.cond 14 (js [jm 15 2,jm 16 4,jb 17 .leq .i 15 16,jm 10 17] [10] .ret) .skip)) (js [jl 18 3 5,jm 19 1,jm 20 3,jm 21 2,jc 22 122 [18,19,20,21],jm 11 22] [4,11] (js [jm 23 11,jq 24 (.bin .neq .i 23 (.k (V.i (-1)))),jm 25 24,ju 26 25 (.mv 11),ju 27 25 (.mv 4),ju 28 25 (.bin .leq .i 26 27),jq 29 (.pick 25 28 kf),jm 10 29] [10] .ret)))
def HT:List RV:=[.t 10]
def fJ (g:G) (t:TE) (a0:Network) (a1:ByteArray) (a2:Int) (a3:ByteArray) (a4:Int):Option Bool:=
 br (g.seq a1 a3)
 (
  some (g.le a2 a4))
 (
  cl (fV g t a0 a1 a3 a2) fun x1=>
  br (g.eq x1 (-1))
  (
   some false)
  (
   some (g.le x1 a4)))
theorem kg {g:G} {t:TE} {a0:Network} {a1:ByteArray} {a2:Int} {a3:ByteArray} {a4:Int} {r:Bool} (hg:g=G.real) (ht:t=TE.real) (h:fJ g t a0 a1 a2 a3 a4=some r):Fn Tryz.prog 124 [.g (Network.rs t a0),.c (.v (.string a1)),.c (.v (.int .i64 a2)),.c (.v (.string a3)),.c (.v (.int .i64 a4))] (.c (.r (.v (.bool r)))):=by
 obtain⟨X,hX⟩:=aH (.c (.r (.v (.bool r))):X);rw[←hX];refine aw (rvs:=HT) (j:=JB) Tryz.func124 rfl (by kernel_rfl) (nb rfl) (by kernel_rfl) af ?_;intro g2 F hg2 hF;obtain rfl:g2=g:=hg2.unique.trans hg.symm;clear hg2;obtain⟨_,_,_,eq,_,_,_,_,_,_,_,_,_,_,_,_,_,seq⟩:=g2;obtain⟨_⟩:=t
 obtain⟨a0_Legs,a0_Off,a0_Change⟩:=a0;unfold fJ at h;try dsimp only at h
 cbv
 cases hb1:(seq a1 a3)
 rotate_left
 ·rw[ab hb1] at h;cbv;obtain rfl:=Option.some.inj h;exact ARet.mk trivial hX.symm
 rw[aa hb1] at h;cbv;obtain⟨x1,hx1,h⟩:=ac h;try dsimp only at h
 refine ACall.mk _ _ rfl (hF _ _ _ (lw hg ht hx1)) (.inl rfl) (nb rfl) ?_;cbv
 cases hb2:(eq x1 (-1))
 rotate_left
 ·rw[ab hb2] at h;cbv;iterate 3 try(rw[hb2];cbv)
  obtain rfl:=Option.some.inj h;exact ARet.mk trivial hX.symm
 rw[aa hb2] at h;cbv;iterate 3 try(rw[hb2];cbv)
 obtain rfl:=Option.some.inj h;exact ARet.mk trivial hX.symm
def ir90:J:=js [jq 2 (.box 0),jm 4 kf] [1,2] (.seq (js [jf 5 4 2,jk 6 5] [1,2,6] (.cond 6 (js [jf 7 8 2,jk 8 7,jq 9 (.not 8),jm 10 9,ju 11 10 (.fa 5 2),ju 12 10 (.ld false 1 11),ju 13 10 (.mv 1),ju 14 10 (.bin .eql .s 12 13),jq 15 (.pick 10 14 kf),jm 4 15] [4] .ret) .skip)) (js [jf 16 9 2,jk 17 16,jm 18 17,ju 19 18 (.fa 0 2),ju 20 18 (.ld true 3 19),ju 21 18 (.fa 10 2),ju 22 18 (.fa 0 21),ju 23 18 (.ld false 1 22),ju 24 18 (.fa 10 2),ju 25 18 (.fa 1 24),ju 26 18 (.ld false 1 25),ju 27 18 (.mv 1),ju 28 18 (.fa 3 2),ju 29 18 (.ld false 1 28),ju 30 18 (.call 124 true [20,23,26,27,29]),jq 31 (.pick 18 30 kf),jm 32 31,ju 33 32 (.fa 14 2),ju 34 32 (.ld false 1 33),ju 35 32 (.not 34),ju 36 32 (.mv 35),jv 37 36 (.fa 0 2),jv 38 36 (.ld true 3 37),jv 39 36 (.mv 1),jv 40 36 (.fa 3 2),jv 41 36 (.ld false 1 40),jv 42 36 (.fa 12 2),jv 43 36 (.fa 0 42),jv 44 36 (.ld false 1 43),jv 45 36 (.fa 12 2),jv 46 36 (.fa 1 45),jv 47 36 (.ld false 1 46),jv 48 36 (.call 124 true [38,39,41,44,47]),ju 49 32 (.pick 36 kt 48),jq 50 (.pick 32 49 kf),jm 4 50] [4] .ret))
def rv90:List RV:=[.t 4]
def aC (g:G) (t:TE) (a0:Know) (a1:ByteArray):Option Bool:=
 br a0.known
 (
  br a0.rides
  (
   some false)
  (
   some (g.seq a0.place a1)))
 (
  br a0.free
  (
   cl (fJ g t (Network.mk a0.n.Legs a0.n.Off a0.n.Change) a0.from_.Place a0.from_.At a1 a0.at_) fun x1=>
   br x1
   (
    br a0.more
    (
     cl (fJ g t (Network.mk a0.n.Legs a0.n.Off a0.n.Change) a1 a0.at_ a0.to.Place a0.to.At) fun x2=>
     some x2)
    (
     some true))
   (
    some false))
  (
   some false))
theorem cK {g:G} {t:TE} {a0:Know} {a1:ByteArray} {r:Bool} (hg:g=G.real) (ht:t=TE.real) (h:aC g t a0 a1=some r):Fn Tryz.prog 90 [.g (Know.rs t a0),.c (.v (.string a1))] (.c (.r (.v (.bool r)))):=by
 obtain⟨X,hX⟩:=aH (.c (.r (.v (.bool r))):X);rw[←hX];refine aw (rvs:=rv90) (j:=ir90) Tryz.func90 rfl (by kernel_rfl) (nb rfl) (by kernel_rfl) af ?_;intro g2 F hg2 hF;obtain rfl:g2=g:=hg2.unique.trans hg.symm;clear hg2;obtain⟨_⟩:=g2;obtain⟨_⟩:=t
 obtain⟨⟨a0_n_Legs,a0_n_Off,a0_n_Change⟩,a0_at_,a0_known,a0_place,⟨a0_ride_Leg,a0_ride_Day⟩,a0_rides,a0_free,⟨a0_from__Place,a0_from__At⟩,⟨a0_to_Place,a0_to_At⟩,a0_more⟩:=a0;unfold aC at h;try dsimp only at h
 cbv
 cases hb1:a0_known
 rotate_left
 ·rw[ab hb1] at h;cbv
  cases hb2:a0_rides
  rotate_left
  ·rw[ab hb2] at h;cbv;iterate 4 try(rw[hb2];cbv)
   obtain rfl:=Option.some.inj h;exact ARet.mk trivial hX.symm
  rw[aa hb2] at h;cbv;iterate 4 try(rw[hb2];cbv)
  obtain rfl:=Option.some.inj h;exact ARet.mk trivial hX.symm
 rw[aa hb1] at h;cbv
 cases hb3:a0_free
 ·rw[aa hb3] at h;cbv;iterate 12 try(rw[hb3];cbv)
  obtain rfl:=Option.some.inj h;exact ARet.mk trivial hX.symm
 rw[ab hb3] at h;cbv;iterate 11 try(rw[hb3];cbv)
 obtain⟨x1,hx1,h⟩:=ac h;try dsimp only at h
 refine ACall.mk _ _ rfl (hF _ _ _ (kg hg ht hx1)) (.inl rfl) (nb rfl) ?_;cbv;try(rw[hb3];cbv)
 cases hb4:x1
 ·rw[aa hb4] at h;cbv;iterate 5 try(rw[hb4];cbv)
  obtain rfl:=Option.some.inj h;exact ARet.mk trivial hX.symm
 rw[ab hb4] at h;cbv;iterate 3 try(rw[hb4];cbv)
 cases hb5:a0_more
 ·rw[aa hb5] at h;cbv;iterate 11 try(rw[hb5];cbv)
  try(rw[hb4];cbv)
  try(rw[hb5];cbv)
  try(rw[hb4];cbv)
  obtain rfl:=Option.some.inj h;exact ARet.mk trivial hX.symm
 rw[ab hb5] at h;cbv;iterate 11 try(rw[hb5];cbv)
 obtain⟨x2,hx2,h⟩:=ac h;try dsimp only at h
 refine ACall.mk _ _ rfl (hF _ _ _ (kg hg ht hx2)) (.inl rfl) (nb rfl) ?_;cbv;try(rw[hb4];cbv)
 try(rw[hb5];cbv)
 try(rw[hb4];cbv)
 obtain rfl:=Option.some.inj h;exact ARet.mk trivial hX.symm
def ir43:J:=js [jq 5 (.box 0),jm 10 kf] [1,2,3,4,5] (js [jl 11 3 5,jc 12 88 [11],jm 13 12,ju 14 13 (.ld true 3 5),ju 15 13 (.call 82 true [14]),ju 16 13 (.mv 4),ju 17 13 (.call 81 true [15,16]),ju 18 13 (.bin .geq .i 17 (ki 0)),jq 19 (.pick 13 18 kf),jm 20 19,ju 21 20 (.ld true 3 5),ju 22 20 (.mv 1),ju 23 20 (.mv 2),ju 24 20 (.mv 3),ju 25 20 (.call 89 true [21,22,23,24]),ju 26 20 (.mv 4),ju 27 20 (.call 90 true [25,26]),jq 28 (.pick 20 27 kf),jm 10 28] [10] .ret)
def rv43:List RV:=[.t 10]
def ll (g:G) (t:TE) (a0:Network) (a1:List Scan) (a2:Int) (a3:Int) (a4:ByteArray):Option Bool:=
 cl (eA g t a0) fun x1=>
 br x1
 (
  cl (eK g t a0) fun x2=>
  lP (eE g t x2 a4) fun x3=>
  br (g.le 0 x3)
  (
   cl (jS g t a0 a1 a2 a3) fun x4=>
   cl (aC g t (Know.mk (Network.mk x4.n.Legs x4.n.Off x4.n.Change) x4.at_ x4.known x4.place (Trip.mk x4.ride.Leg x4.ride.Day) x4.rides x4.free (Spot.mk x4.from_.Place x4.from_.At) (Spot.mk x4.to.Place x4.to.At) x4.more) a4) fun x5=>
   some x5)
  (
   some false))
 (
  some false)
theorem rX {g:G} {t:TE} {a0:Network} {a1:List Scan} {a2:Int} {a3:Int} {a4:ByteArray} {r:Bool} (hg:g=G.real) (ht:t=TE.real) (h:ll g t a0 a1 a2 a3 a4=some r):Fn Tryz.prog 43 [.g (Network.rs t a0),.c (.s 6 (t.r_Scan a1)),.c (.v (.int .i64 a2)),.c (.v (.int .i64 a3)),.c (.v (.string a4))] (.c (.r (.v (.bool r)))):=by
 obtain⟨X,hX⟩:=aH (.c (.r (.v (.bool r))):X);rw[←hX];refine aw (rvs:=rv43) (j:=ir43) Tryz.func43 rfl (by kernel_rfl) (nb rfl) (by kernel_rfl) af ?_;intro g2 F hg2 hF;obtain rfl:g2=g:=hg2.unique.trans hg.symm;clear hg2;obtain⟨_,_,le,_,_,_,_,_,_,_,_,_,_,_,_,_,_,_,_,_,_,_,_,_,dlen,_,_,_,rd⟩:=g2;obtain⟨_,_,_,_,_,_,r_S,d_S⟩:=t
 obtain⟨a0_Legs,a0_Off,a0_Change⟩:=a0;unfold ll at h;try dsimp only at h
 cbv;obtain⟨x1,hx1,h⟩:=ac h;try dsimp only at h
 refine ACall.mk _ _ rfl (hF _ _ _ (iB hg ht hx1)) (.inl rfl) (nb rfl) ?_;cbv
 cases hb1:x1
 ·rw[aa hb1] at h;cbv;iterate 5 try(rw[hb1];cbv)
  obtain rfl:=Option.some.inj h;exact ARet.mk trivial hX.symm
 rw[ab hb1] at h;cbv;try(rw[hb1];cbv)
 obtain⟨x2,hx2,h⟩:=ac h;try dsimp only at h
 refine ACall.mk _ _ rfl (hF _ _ _ (gg hg ht hx2)) (.inl rfl) (nb rfl) ?_;cbv;iterate 2 try(rw[hb1];cbv)
 refine AStep.mk (dN ht (aq hg ht _)) ?_;cbv;obtain⟨x3,hx3,h⟩:=ak h;try dsimp only at h
 refine ACall.mk _ _ (by rw[show rd (d_S x2) 0 (dlen (d_S x2))=r_S x2 from fK hg ht (aq hg ht _)];try rfl) (hF _ _ _ (fQ hg ht hx3)) (.inr rfl) (nb rfl) ?_
 cbv;iterate 2 try(rw[hb1];cbv)
 cases hb2:(le 0 x3)
 ·rw[aa hb2] at h;cbv;iterate 7 try(rw[hb2];cbv)
  obtain rfl:=Option.some.inj h;exact ARet.mk trivial hX.symm
 rw[ab hb2] at h;cbv;iterate 4 try(rw[hb2];cbv)
 obtain⟨x4,hx4,h⟩:=ac h;obtain⟨⟨x4_n_Legs,x4_n_Off,x4_n_Change⟩,x4_at_,x4_known,x4_place,⟨x4_ride_Leg,x4_ride_Day⟩,x4_rides,x4_free,⟨x4_from__Place,x4_from__At⟩,⟨x4_to_Place,x4_to_At⟩,x4_more⟩:=x4;try dsimp only at h
 refine ACall.mk _ _ rfl (hF _ _ _ (ou hg ht hx4)) (.inl rfl) (nb rfl) ?_;cbv;iterate 2 try(rw[hb2];cbv)
 obtain⟨x5,hx5,h⟩:=ac h;try dsimp only at h
 refine ACall.mk _ _ rfl (hF _ _ _ (cK hg ht hx5)) (.inl rfl) (nb rfl) ?_;cbv;try(rw[hb2];cbv)
 obtain rfl:=Option.some.inj h;exact ARet.mk trivial hX.symm
def ir93:J:=js [jq 2 (.box 0),jq 3 (.box 1),jm 4 kf] [2,3] (.seq (js [jf 6 4 2,jk 7 6] [2,3,7] (.cond 7 (js [jf 8 8 2,jk 9 8,jm 10 9,ju 11 10 (.fa 6 2),ju 12 10 (.ld true 2 11),ju 13 10 (.ld true 2 3),ju 14 10 (.eqs false [.i,.i] 12 13),jq 15 (.pick 10 14 kf),jm 4 15] [4] .ret) .skip)) (js [jf 16 0 2,jf 17 0 16,jk 18 17,jf 19 0 3,jk 20 19,ja 21 6 18 20,jl 22 6 21,jq 5 (.alloc [.r (.v (.string .empty)),.r (.v (.string .empty)),.r (.v (.int .i64 0)),.r (.v (.int .i64 0)),.r (.v (.int .i64 0)),.r (.v (.int .i64 0))]),jp (.st 6 5 22)] [2,3,5] (.seq (.seq (.reg (some [[],[0],[0,1],[0,1,2],[0,1,2,3],[0,1,2,3,4],[0,1,2,3],[0,1,2,3,4,5,6],[0,1,2,3],[0,1,2,3,8],[0,1,2,3,4,5,6,7,8,9],[0,1,2,3,4,5,6,7,8,9,10],[0,1,2,3,4,5,6,7,8,9,10,11],[0,1,2,3,4,5,6,7,8,9,10,11,12],[0,1,2,3,4,5,6,7,8,9,10,11,12,13],[0,1,2,3,4,5,6,7,8,9,10,11,12],[0,1,2,3,4,5,6,7,8,9,10,11,12,13,14,15],[0,1,2,3,4,5,6,7,8,9,10,11,12],[0,1,2,3,4,5,6,7,8,9,10,11,12,17],[0,1,2,3,4,5,6,7,8,9,10,11,12,13,14,15,16,17,18],[0,1,2,3,4,5,6,7,8,9,10,11,12,13,14,15,16,17,18,19],[0,1,2,3,4,5,6,7,8,9,10,11,12,13,14,15,16,17,18,19,20],[0,1,2,3,4,5,6,7,8,9,10,11,12,13,14,15,16,17,18,19,20,21],[0,1,2,3,4,5,6,7,8,9,10,11,12,13,14,15,16,17,18,19,20,21,22],[0,1,2,3,4,5,6,7,8,9,10,11,12,13,14,15,16,17,18,19,20,21],[0,1,2,3,4,5,6,7,8,9,10,11,12,13,14,15,16,17,18,19,20,21,24],[0,1,2,3,4,5,6,7,8,9,10,11,12,13,14,15,16,17,18,19,20,21,24,25],[0,1,2,3,4,5,6,7,8,9,10,11,12,13,14,15,16,17,18,19,20,21],[0,1,2,3,4,5,6,7,8,9,10,11,12,13,14,15,16,17,18,19,20,21,27],[0,1,2,3,4,5,6,7,8,9,10,11,12,13,14,15,16,17,18,19,20,21,27,28],[0,1,2,3,4,5,6,7,8,9,10,11,12,13,14,15,16,17,18,19,20,21],[0,1,2,3,4,5,6,7,8,9,10,11,12,13,14,15,16,17,18,19,20,21,30],[0,1,2,3,4,5,6,7,8,9,10,11,12,13,14,15,16,17,18,19,20,21],[0,1,2,3,4,5,6,7,8,9,10,11,12,13,14,15,16,17,18,19,20,21,32],[0,1,2,3,4,5,6,7,8,9,10,11,12,13,14,15,16,17,18,19,20,21],[0,1,2,3,4,5,6,7,8,9,10,11,12,13,14,15,16,17,18,19,20,21,32,33,34],[0,1,2,3,4,5,6,7,8,9,10,11,12,13,14,15,16,17,18,19,20,21,22,23,24,25,26,27,28,29,30,31,32,33,34,35],[0,1,2,3,4,5,6,7,8,9,10,11,12,13,14,15,16,17,18,19,20,21,22,23,24,25,26,27,28,29,30,31,32,33,34,35,36],[0,1,2,3,4,5,6,7,8,9,10,11,12,13,14,15,16,17,18,19,20,21,22,23,24,25,26,27,28,29,30,31,32,33,34,35,36,37]]) [jf 23 9 2,jk 24 23,jq 25 (.not 24),jm 26 25,jv 27 26 (.fa 0 2),jv 28
 26 (.ld true 3 27),jv 29 26 (.ld true 2 3),jv 30 26 (.call 105 true [28,29]),jv 31 26 (.fa 3 2),jv 32 26 (.ld false 1 31),jv 33 26 (.bin .gtr .i 30 32),jq 34 (.pick 26 kt 33),jm 35 34,jv 36 35 (.fa 0 2),jv 37 35 (.ld true 3 36),jv 38 35 (.ld true 2 3),jv 39 35 (.call 106 true [37,38]),jv 40 35 (.fa 3 2),jv 41 35 (.ld false 1 40),jv 42 35 (.bin .leq .i 39 41),jq 43 (.pick 35 kt 42),jm 44 43,jv 45 44 (.fa 0 2),jv 46 44 (.ld true 3 45),jv 47 44 (.fa 10 2),jv 48 44 (.fa 0 47),jv 49 44 (.ld false 1 48),jv 50 44 (.fa 10 2),jv 51 44 (.fa 1 50),jv 52 44 (.ld false 1 51),jv 53 44 (.fa 0 5),jv 54 44 (.ld false 1 53),jv 55 44 (.fa 0 2),jv 56 44 (.ld true 3 55),jv 57 44 (.ld true 2 3),jv 58 44 (.call 105 true [56,57]),jv 59 44 (.call 124 true [46,49,52,54,58]),jv 60 44 (.not 59),jq 61 (.pick 44 kt 60)] [2,3,5,61]) (.cond 61 (js [jm 4 kf] [4] .ret) .skip)) (.seq (.reg (some [[],[0],[0,1],[0,1,2],[0,1,2,3],[0,1,2,3,4],[0,1,2,3],[0,1,2,3,6],[0,1,2,3],[0,1,2,3,8],[0,1,2,3],[0,1,2,3,8,9,10],[0,1,2,3],[0,1,2,3,12],[0,1,2,3,12,13],[0,1,2,3],[0,1,2,3,15],[0,1,2,3,15,16],[0,1,2,3,4,5,6,7,8,9,10,11,12,13,14,15,16,17],[0,1,2,3,4,5,6,7,8,9,10,11,12,13,14,15,16,17,18],[0,1,2,3,4,5,6,7,8,9,10,11,12,13,14,15,16,17,18,19]]) [jf 62 14 2,jk 63 62,jq 64 (.not 63),jm 65 64,jv 66 65 (.fa 0 2),jv 67 65 (.ld true 3 66),jv 68 65 (.fa 1 5),jv 69 65 (.ld false 1 68),jv 70 65 (.fa 0 2),jv 71 65 (.ld true 3 70),jv 72 65 (.ld true 2 3),jv 73 65 (.call 106 true [71,72]),jv 74 65 (.fa 12 2),jv 75 65 (.fa 0 74),jv 76 65 (.ld false 1 75),jv 77 65 (.fa 12 2),jv 78 65 (.fa 1 77),jv 79 65 (.ld false 1 78),jv 80 65 (.call 124 true [67,69,73,76,79]),jq 81 (.pick 65 kt 80),jm 4 81] [4]) .ret))))
def rv93:List RV:=[.t 4]
def aB (g:G) (t:TE) (a0:Know) (a1:Trip):Option Bool:=
 br a0.known
 (
  br a0.rides
  (
   some (g.all [(g.eq a0.ride.Leg a1.Leg),(g.eq a0.ride.Day a1.Day)]))
  (
   some false))
 (
  gd (((0:Int)≤a1.Leg))<|
  gt a0.n.Legs (g.nat a1.Leg) fun x1=>
  br a0.free
  (
   cl (dX g t (Network.mk a0.n.Legs a0.n.Off a0.n.Change) a1) fun x2=>
   br (g.lt a0.at_ x2)
   (
    some false)
   (
    cl (iv g t (Network.mk a0.n.Legs a0.n.Off a0.n.Change) a1) fun x3=>
    br (g.le x3 a0.at_)
    (
     some false)
    (
     cl (dX g t (Network.mk a0.n.Legs a0.n.Off a0.n.Change) a1) fun x4=>
     cl (fJ g t (Network.mk a0.n.Legs a0.n.Off a0.n.Change) a0.from_.Place a0.from_.At x1.From x4) fun x5=>
     br x5
     (
      br a0.more
      (
       cl (iv g t (Network.mk a0.n.Legs a0.n.Off a0.n.Change) a1) fun x6=>
       cl (fJ g t (Network.mk a0.n.Legs a0.n.Off a0.n.Change) x1.To x6 a0.to.Place a0.to.At) fun x7=>
       some x7)
      (
       some true))
     (
      some false))))
  (
   some false))
theorem cu {g:G} {t:TE} {a0:Know} {a1:Trip} {r:Bool} (hg:g=G.real) (ht:t=TE.real) (h:aB g t a0 a1=some r):Fn Tryz.prog 93 [.g (Know.rs t a0),.g (Trip.rs t a1)] (.c (.r (.v (.bool r)))):=by
 obtain⟨X,hX⟩:=aH (.c (.r (.v (.bool r))):X);rw[←hX];refine aw (rvs:=rv93) (j:=ir93) Tryz.func93 rfl (by kernel_rfl) (nb rfl) (by kernel_rfl) af ?_;intro g2 F hg2 hF;obtain rfl:g2=g:=hg2.unique.trans hg.symm;clear hg2;obtain⟨_,lt,le⟩:=g2;obtain⟨_⟩:=t
 obtain⟨⟨a0_n_Legs,a0_n_Off,a0_n_Change⟩,a0_at_,a0_known,a0_place,⟨a0_ride_Leg,a0_ride_Day⟩,a0_rides,a0_free,⟨a0_from__Place,a0_from__At⟩,⟨a0_to_Place,a0_to_At⟩,a0_more⟩:=a0;obtain⟨a1_Leg,a1_Day⟩:=a1;unfold aB at h;try dsimp only at h
 cbv
 cases hb1:a0_known
 rotate_left
 ·rw[ab hb1] at h;cbv
  cases hb2:a0_rides
  rotate_left
  ·rw[ab hb2] at h;cbv;iterate 4 try(rw[hb2];cbv)
   obtain rfl:=Option.some.inj h;exact ARet.mk trivial hX.symm
  rw[aa hb2] at h;cbv;iterate 4 try(rw[hb2];cbv)
  obtain rfl:=Option.some.inj h;exact ARet.mk trivial hX.symm
 rw[aa hb1] at h;cbv;obtain⟨hc1,h⟩:=al h;refine AStep.mk hc1 ?_;cbv;obtain⟨x1,hx1,h⟩:=aE h;obtain⟨x1_From,x1_To,x1_Start,x1_Takes,x1_Days,x1_Room⟩:=x1;try dsimp only at h
 refine AGet.mk _ (aF hg ht hx1) ?_;cbv
 cases hb3:a0_free
 ·rw[aa hb3] at h;cbv;iterate 7 try(rw[hb3];cbv)
  obtain rfl:=Option.some.inj h;exact ARet.mk trivial hX.symm
 rw[ab hb3] at h;cbv;iterate 3 try(rw[hb3];cbv)
 obtain⟨x2,hx2,h⟩:=ac h;try dsimp only at h
 refine ACall.mk _ _ rfl (hF _ _ _ (eL hg ht hx2)) (.inl rfl) (nb rfl) ?_;cbv;iterate 4 try(rw[hb3];cbv)
 cases hb4:(lt a0_at_ x2)
 rotate_left
 ·rw[ab hb4] at h;cbv;iterate 7 try(rw[hb4];cbv)
  obtain rfl:=Option.some.inj h;exact ARet.mk trivial hX.symm
 rw[aa hb4] at h;cbv;iterate 3 try(rw[hb4];cbv)
 obtain⟨x3,hx3,h⟩:=ac h;try dsimp only at h
 refine ACall.mk _ _ rfl (hF _ _ _ (gM hg ht hx3)) (.inl rfl) (nb rfl) ?_;cbv;iterate 4 try(rw[hb4];cbv)
 cases hb5:(le x3 a0_at_)
 rotate_left
 ·rw[ab hb5] at h;cbv;iterate 16 try(rw[hb5];cbv)
  obtain rfl:=Option.some.inj h;exact ARet.mk trivial hX.symm
 rw[aa hb5] at h;cbv;iterate 13 try(rw[hb5];cbv)
 obtain⟨x4,hx4,h⟩:=ac h;try dsimp only at h
 refine ACall.mk _ _ rfl (hF _ _ _ (eL hg ht hx4)) (.inl rfl) (nb rfl) ?_;cbv;try(rw[hb5];cbv)
 obtain⟨x5,hx5,h⟩:=ac h;try dsimp only at h
 refine ACall.mk _ _ rfl (hF _ _ _ (kg hg ht hx5)) (.inl rfl) (nb rfl) ?_;cbv;iterate 2 try(rw[hb5];cbv)
 cases hb6:x5
 ·rw[aa hb6] at h;cbv;obtain rfl:=Option.some.inj h;exact ARet.mk trivial hX.symm
 rw[ab hb6] at h;cbv
 cases hb7:a0_more
 ·rw[aa hb7] at h;cbv;iterate 15 try(rw[hb7];cbv)
  obtain rfl:=Option.some.inj h;exact ARet.mk trivial hX.symm
 rw[ab hb7] at h;cbv;iterate 7 try(rw[hb7];cbv)
 obtain⟨x6,hx6,h⟩:=ac h;try dsimp only at h
 refine ACall.mk _ _ rfl (hF _ _ _ (gM hg ht hx6)) (.inl rfl) (nb rfl) ?_;cbv;iterate 7 try(rw[hb7];cbv)
 obtain⟨x7,hx7,h⟩:=ac h;try dsimp only at h
 refine ACall.mk _ _ rfl (hF _ _ _ (kg hg ht hx7)) (.inl rfl) (nb rfl) ?_;cbv;try(rw[hb7];cbv)
 obtain rfl:=Option.some.inj h;exact ARet.mk trivial hX.symm
def ir46:J:=js [jq 5 (.box 0),jq 9 (.box 4),jm 10 kf] [1,2,3,5,9] (.seq (.reg (some [[],[],[0,1],[0,1,2],[0,1,2,3],[0,1,2,3],[0,1,2,3],[0,1,2,3],[0,1,2,3,4,5,6,7],[0,1,2,3],[0,1,2,3,4,5,6,7,8,9],[0,1,2,3,4,5,6,7,8,9,10],[0,1,2,3,4,5,6,7,8,9,10,11]]) [jl 11 3 5,jl 12 2 9,jc 13 92 [11,12],jm 14 13,ju 15 14 (.ld true 3 5),ju 16 14 (.mv 1),ju 17 14 (.mv 2),ju 18 14 (.mv 3),ju 19 14 (.call 89 true [15,16,17,18]),ju 20 14 (.ld true 2 9),ju 21 14 (.call 93 true [19,20]),jq 22 (.pick 14 21 kf),jm 10 22] [10]) .ret)
def rv46:List RV:=[.t 10]
def mU (g:G) (t:TE) (a0:Network) (a1:List Scan) (a2:Int) (a3:Int) (a4:Trip):Option Bool:=
 cl (ky g t a0 a4) fun x1=>
 br x1
 (
  cl (jS g t a0 a1 a2 a3) fun x2=>
  cl (aB g t (Know.mk (Network.mk x2.n.Legs x2.n.Off x2.n.Change) x2.at_ x2.known x2.place (Trip.mk x2.ride.Leg x2.ride.Day) x2.rides x2.free (Spot.mk x2.from_.Place x2.from_.At) (Spot.mk x2.to.Place x2.to.At) x2.more) a4) fun x3=>
  some x3)
 (
  some false)
theorem yX {g:G} {t:TE} {a0:Network} {a1:List Scan} {a2:Int} {a3:Int} {a4:Trip} {r:Bool} (hg:g=G.real) (ht:t=TE.real) (h:mU g t a0 a1 a2 a3 a4=some r):Fn Tryz.prog 46 [.g (Network.rs t a0),.c (.s 6 (t.r_Scan a1)),.c (.v (.int .i64 a2)),.c (.v (.int .i64 a3)),.g (Trip.rs t a4)] (.c (.r (.v (.bool r)))):=by
 obtain⟨X,hX⟩:=aH (.c (.r (.v (.bool r))):X);rw[←hX];refine aw (rvs:=rv46) (j:=ir46) Tryz.func46 rfl (by kernel_rfl) (nb rfl) (by kernel_rfl) af ?_;intro g2 F hg2 hF;obtain rfl:g2=g:=hg2.unique.trans hg.symm;clear hg2;obtain⟨_⟩:=g2;obtain⟨_⟩:=t
 obtain⟨a0_Legs,a0_Off,a0_Change⟩:=a0;obtain⟨a4_Leg,a4_Day⟩:=a4;unfold mU at h;try dsimp only at h
 cbv;obtain⟨x1,hx1,h⟩:=ac h;try dsimp only at h
 refine ACall.mk _ _ rfl (hF _ _ _ (pQ hg ht hx1)) (.inl rfl) (nb rfl) ?_;cbv
 cases hb1:x1
 ·rw[aa hb1] at h;cbv;iterate 7 try(rw[hb1];cbv)
  obtain rfl:=Option.some.inj h;exact ARet.mk trivial hX.symm
 rw[ab hb1] at h;cbv;iterate 4 try(rw[hb1];cbv)
 obtain⟨x2,hx2,h⟩:=ac h;obtain⟨⟨x2_n_Legs,x2_n_Off,x2_n_Change⟩,x2_at_,x2_known,x2_place,⟨x2_ride_Leg,x2_ride_Day⟩,x2_rides,x2_free,⟨x2_from__Place,x2_from__At⟩,⟨x2_to_Place,x2_to_At⟩,x2_more⟩:=x2;try dsimp only at h
 refine ACall.mk _ _ rfl (hF _ _ _ (ou hg ht hx2)) (.inl rfl) (nb rfl) ?_;cbv;iterate 2 try(rw[hb1];cbv)
 obtain⟨x3,hx3,h⟩:=ac h;try dsimp only at h
 refine ACall.mk _ _ rfl (hF _ _ _ (cu hg ht hx3)) (.inl rfl) (nb rfl) ?_;cbv;try(rw[hb1];cbv)
 obtain rfl:=Option.some.inj h;exact ARet.mk trivial hX.symm
def ir44:J:=js [jq 5 (.box 0),jq 9 (.box 4),jm 10 kf] [1,2,3,5,9] (.seq (js [jl 16 3 5,jl 17 2 9,jc 18 91 [16,17],jq 19 (.not 18),jm 20 19,jv 21 20 (.ld true 3 5),jv 22 20 (.ld true 2 9),jv 23 20 (.call 85 true [21,22]),jv 24 20 (.mv 3),jv 25 20 (.bin .gtr .i 23 24),jq 26 (.pick 20 kt 25),jm 27 26,jv 28 27 (.ld true 3 5),jv 29 27 (.ld true 2 9),jv 30 27 (.call 86 true [28,29]),jv 31 27 (.mv 3),jv 32 27 (.bin .leq .i 30 31),jq 33 (.pick 27 kt 32)] [1,2,3,5,9,33] (.cond 33 (js [jm 10 kf] [10] .ret) .skip)) (js [jl 35 3 5,jm 36 1,jm 37 2,jm 38 3,jc 39 35 [35,36,37,38],jm 34 39,jq 40 (.ext 0 34),jq 41 (.ext 1 34),jq 11 (.alloc [.r (.v (.int .i64 0)),.r (.v (.int .i64 0)),.r (.v (.int .i64 0)),.r (.v (.string .empty)),.r (.v (.int .i64 0)),.r (.v (.int .i64 0))]),jp (.st 6 11 40),jm 12 41] [1,2,3,5,9,11,12] (js [jl 43 3 5,jm 44 1,jm 45 2,jm 46 3,jc 47 38 [43,44,45,46],jm 42 47,jq 48 (.ext 0 42),jq 49 (.ext 1 42),jq 13 (.alloc [.r (.v (.int .i64 0)),.r (.v (.int .i64 0)),.r (.v (.int .i64 0)),.r (.v (.string .empty)),.r (.v (.int .i64 0)),.r (.v (.int .i64 0))]),jp (.st 6 13 48),jm 14 49] [3,5,9,11,12,13,14] (.seq (js [jm 50 12,jq 51 (.not 50),jm 52 51,jv 53 52 (.fa 2 11),jv 54 52 (.ld false 1 53),jv 55 52 (.bin .eql .i 54 (ki 4)),jq 56 (.pick 52 kt 55)] [3,5,9,11,13,14,56] (.cond 56 (js [jm 10 kf] [10] .ret) .skip)) (.seq (js [jm 57 14,jm 58 57,ju 59 58 (.fa 2 13),ju 60 58 (.ld false 1 59),ju 61 58 (.bin .eql .i 60 (ki 2)),jq 62 (.pick 58 61 kf),jm 63 62,ju 64 63 (.ld true 3 5),ju 65 63 (.fa 4 13),ju 66 63 (.ld true 2 65),ju 67 63 (.call 85 true [64,66]),ju 68 63 (.mv 3),ju 69 63 (.bin .leq .i 67 68),jq 70 (.pick 63 69 kf)] [3,5,9,11,13,14,70] (.cond 70 (js [jf 71 4 13,jl 72 2 71,jl 73 2 9,jq 74 (.eqs false [.i,.i] 72 73),jm 10 74] [10] .ret) .skip)) (.seq (js [jf 75 2 11,jk 76 75,jb 77 .eql .i 76 (ki 3),jm 78 77,ju 79 78 (.mv 3),ju 80 78 (.ld true 3 5),ju 81 78 (.fa 4 11),ju 82 78 (.ld true 2 81),ju 83 78 (.call 86 true [80,82]),ju 84 78 (.bin .lss .i 79 83),jq 85 (.pick 78 84 kf)] [5,9,11,13,14,85] (.cond 85 (js [jf 86 4 11,jl 87 2 86,jl 88 2 9,jq 89 (.eqs false [.i,.i] 87 88),jm 10 89] [10] .ret) .skip)) (.seq (.reg (some [[],[],[],[1,2],[],[4],[],[6],[4,5,6,7],[4,5,6,7,8],[4,5,6,7,8,9],[0,1,2,3,4,5,6,7,8,9,10],[0,1,2,3,4,5,6,7,8,9,10,11]]) [jl 90 3 5,jl 91 3 5,jl 92 6 11,jc 93 80 [91,92],jf 94 0 5,jk 95 94,jf 96 0 9,jk 97 96,ja 98 6 95 97,jf 99 0 98,jk 100 99,jc 101 79 [90,93,100],jm 15 101] [5,9,13,14,15]) (.seq (js [jm 102 15,jb 103 .lss .i 102 (ki 0),jm 104 103,jv 105 104 (.mv 15),jv 106 104 (.ld true 3 5),jv 107 104 (.ld true 2 9),jv 108 104 (.call 85 true [106,107]),jv 109 104 (.bin .gtr .i 105 108),jq 110 (.pick 104 kt 109)] [5,9,13,14,110] (.cond 110 (js [jm 10 kf] [10] .ret) .skip)) (.seq (.reg (some [[],[],[1],[],[3],[1,
 2,3,4],[1,2,3,4,5],[1,2,3,4,5,6],[],[],[8,9],[1,2,3,4,5,6,7,8,9,10],[],[],[0,1,2,3,4,5,6,7,8,9,10,11,12,13],[0,1,2,3,4,5,6,7,8,9,10,11,12,13,14]]) [jl 111 3 5,jf 112 0 5,jk 113 112,jf 114 0 9,jk 115 114,ja 116 6 113 115,jf 117 1 116,jk 118 117,jl 119 3 5,jl 120 2 9,jc 121 86 [119,120],jq 122 (.bld [.r (.v (.string .empty)),.r (.v (.int .i64 0))] [(0,1,118),(1,1,121)]),jl 123 6 13,jm 124 14,jc 125 87 [111,122,123,124],jm 10 125] [10]) .ret)))))))))
def rv44:List RV:=[.t 10]
def ln (g:G) (t:TE) (a0:Network) (a1:List Scan) (a2:Int) (a3:Int) (a4:Trip):Option Bool:=
 cl (kx g t a0 a4) fun x1=>
 br x1
 (
  cl (bg g t a0 a4) fun x2=>
  br (g.lt a3 x2)
  (
   some false)
  (
   cl (bP g t a0 a4) fun x3=>
   br (g.le x3 a3)
   (
    some false)
   (
    cl (iO g t a0 a1 a2 a3) fun x4=>
    cl (iV g t a0 a1 a2 a3) fun x5=>
    br x4.2
    (
     br (g.eq x4.1.Kind 4)
     (
      some false)
     (
      br x5.2
      (
       br (g.eq x5.1.Kind 2)
       (
        cl (bg g t a0 (Trip.mk x5.1.Trip.Leg x5.1.Trip.Day)) fun x6=>
        br (g.le x6 a3)
        (
         some (g.all [(g.eq x5.1.Trip.Leg a4.Leg),(g.eq x5.1.Trip.Day a4.Day)]))
        (
         br (g.eq x4.1.Kind 3)
         (
          cl (bP g t a0 (Trip.mk x4.1.Trip.Leg x4.1.Trip.Day)) fun x7=>
          br (g.lt a3 x7)
          (
           some (g.all [(g.eq x4.1.Trip.Leg a4.Leg),(g.eq x4.1.Trip.Day a4.Day)]))
          (
           cl (aV g t a0 (Scan.mk x4.1.Thing x4.1.At x4.1.Kind x4.1.Place (Trip.mk x4.1.Trip.Leg x4.1.Trip.Day))) fun x8=>
           gd (((0:Int)≤a4.Leg))<|
           gt a0.Legs (g.nat a4.Leg) fun x9=>
           cl (bC g t a0 x8 x9.From) fun x10=>
           br (g.lt x10 0)
           (
            some false)
           (
            cl (bg g t a0 a4) fun x11=>
            br (g.lt x11 x10)
            (
             some false)
            (
             gd (((0:Int)≤a4.Leg))<|
             cl (bP g t a0 a4) fun x12=>
             cl (c8 g t a0 (Spot.mk x9.To x12) (Scan.mk x5.1.Thing x5.1.At x5.1.Kind x5.1.Place (Trip.mk x5.1.Trip.Leg x5.1.Trip.Day)) x5.2) fun x13=>
             some x13))))
         (
          cl (aV g t a0 (Scan.mk x4.1.Thing x4.1.At x4.1.Kind x4.1.Place (Trip.mk x4.1.Trip.Leg x4.1.Trip.Day))) fun x14=>
          gd (((0:Int)≤a4.Leg))<|
          gt a0.Legs (g.nat a4.Leg) fun x15=>
          cl (bC g t a0 x14 x15.From) fun x16=>
          br (g.lt x16 0)
          (
           some false)
          (
           cl (bg g t a0 a4) fun x17=>
           br (g.lt x17 x16)
           (
            some false)
           (
            gd (((0:Int)≤a4.Leg))<|
            cl (bP g t a0 a4) fun x18=>
            cl (c8 g t a0 (Spot.mk x15.To x18) (Scan.mk x5.1.Thing x5.1.At x5.1.Kind x5.1.Place (Trip.mk x5.1.Trip.Leg x5.1.Trip.Day)) x5.2) fun x19=>
            some x19)))))
       (
        br (g.eq x4.1.Kind 3)
        (
         cl (bP g t a0 (Trip.mk x4.1.Trip.Leg x4.1.Trip.Day)) fun x20=>
         br (g.lt a3 x20)
         (
          some (g.all [(g.eq x4.1.Trip.Leg a4.Leg),(g.eq x4.1.Trip.Day a4.Day)]))
         (
          cl (aV g t a0 (Scan.mk x4.1.Thing x4.1.At x4.1.Kind x4.1.Place (Trip.mk x4.1.Trip.Leg x4.1.Trip.Day))) fun x21=>
          gd (((0:Int)≤a4.Leg))<|
          gt a0.Legs (g.nat a4.Leg) fun x22=>
          cl (bC g t a0 x21 x22.From) fun x23=>
          br (g.lt x23 0)
          (
           some false)
          (
           cl (bg g t a0 a4) fun x24=>
           br (g.lt x24 x23)
           (
            some false)
           (
            gd (((0:Int)≤a4.Leg))<|
            cl (bP g t a0 a4) fun x25=>
            cl (c8 g t a0 (Spot.mk x22.To x25) (Scan.mk x5.1.Thing x5.1.At x5.1.Kind x5.1.Place (Trip.mk x5.1.Trip.Leg x5.1.Trip.Day)) x5.2) fun x26=>
            some x26))))
        (
         cl (aV g t a0 (Scan.mk x4.1.Thing x4.1.At x4.1.Kind x4.1.Place (Trip.mk x4.1.Trip.Leg x4.1.Trip.Day))) fun x27=>
         gd (((0:Int)≤a4.Leg))<|
         gt a0.Legs (g.nat a4.Leg) fun x28=>
         cl (bC g t a0 x27 x28.From) fun x29=>
         br (g.lt x29 0)
         (
          some false)
         (
          cl (bg g t a0 a4) fun x30=>
          br (g.lt x30 x29)
          (
           some false)
          (
           gd (((0:Int)≤a4.Leg))<|
           cl (bP g t a0 a4) fun x31=>
           cl (c8 g t a0 (Spot.mk x28.To x31) (Scan.mk x5.1.Thing x5.1.At x5.1.Kind x5.1.Place (Trip.mk x5.1.Trip.Leg x5.1.Trip.Day)) x5.2) fun x32=>
           some x32)))))
      (
       br (g.eq x4.1.Kind 3)
       (
        cl (bP g t a0 (Trip.mk x4.1.Trip.Leg x4.1.Trip.Day)) fun x33=>
        br (g.lt a3 x33)
        (
         some (g.all [(g.eq x4.1.Trip.Leg a4.Leg),(g.eq x4.1.Trip.Day a4.Day)]))
        (
         cl (aV g t a0 (Scan.mk x4.1.Thing x4.1.At x4.1.Kind x4.1.Place (Trip.mk x4.1.Trip.Leg x4.1.Trip.Day))) fun x34=>
         gd (((0:Int)≤a4.Leg))<|
         gt a0.Legs (g.nat a4.Leg) fun x35=>
         cl (bC g t a0 x34 x35.From) fun x36=>
         br (g.lt x36 0)
         (
          some false)
         (
          cl (bg g t a0 a4) fun x37=>
          br (g.lt x37 x36)
          (
           some false)
          (
           gd (((0:Int)≤a4.Leg))<|
           cl (bP g t a0 a4) fun x38=>
           cl (c8 g t a0 (Spot.mk x35.To x38) (Scan.mk x5.1.Thing x5.1.At x5.1.Kind x5.1.Place (Trip.mk x5.1.Trip.Leg x5.1.Trip.Day)) x5.2) fun x39=>
           some x39))))
       (
        cl (aV g t a0 (Scan.mk x4.1.Thing x4.1.At x4.1.Kind x4.1.Place (Trip.mk x4.1.Trip.Leg x4.1.Trip.Day))) fun x40=>
        gd (((0:Int)≤a4.Leg))<|
        gt a0.Legs (g.nat a4.Leg) fun x41=>
        cl (bC g t a0 x40 x41.From) fun x42=>
        br (g.lt x42 0)
        (
         some false)
        (
         cl (bg g t a0 a4) fun x43=>
         br (g.lt x43 x42)
         (
          some false)
         (
          gd (((0:Int)≤a4.Leg))<|
          cl (bP g t a0 a4) fun x44=>
          cl (c8 g t a0 (Spot.mk x41.To x44) (Scan.mk x5.1.Thing x5.1.At x5.1.Kind x5.1.Place (Trip.mk x5.1.Trip.Leg x5.1.Trip.Day)) x5.2) fun x45=>
          some x45))))))
    (
     some false))))
 (
  some false)
theorem rH {g:G} {t:TE} {a0:Network} {a1:List Scan} {a2:Int} {a3:Int} {a4:Trip} {r:Bool} (hg:g=G.real) (ht:t=TE.real) (h:ln g t a0 a1 a2 a3 a4=some r):Fn Tryz.prog 44 [.g (Network.rs t a0),.c (.s 6 (t.r_Scan a1)),.c (.v (.int .i64 a2)),.c (.v (.int .i64 a3)),.g (Trip.rs t a4)] (.c (.r (.v (.bool r)))):=by
 obtain⟨X,hX⟩:=aH (.c (.r (.v (.bool r))):X);rw[←hX];refine aw (rvs:=rv44) (j:=ir44) Tryz.func44 rfl (by kernel_rfl) (nb rfl) (by kernel_rfl) af ?_;intro g2 F hg2 hF;obtain rfl:g2=g:=hg2.unique.trans hg.symm;clear hg2;obtain⟨_,lt,le,eq⟩:=g2;obtain⟨_⟩:=t
 obtain⟨a0_Legs,a0_Off,a0_Change⟩:=a0;obtain⟨a4_Leg,a4_Day⟩:=a4;unfold ln at h;try dsimp only at h
 cbv;obtain⟨x1,hx1,h⟩:=ac h;try dsimp only at h
 refine ACall.mk _ _ rfl (hF _ _ _ (pB hg ht hx1)) (.inl rfl) (nb rfl) ?_;cbv
 cases hb1:x1
 ·rw[aa hb1] at h;cbv;iterate 5 try(rw[hb1];cbv)
  obtain rfl:=Option.some.inj h;exact ARet.mk trivial hX.symm
 rw[ab hb1] at h;cbv;iterate 2 try(rw[hb1];cbv)
 obtain⟨x2,hx2,h⟩:=ac h;try dsimp only at h
 refine ACall.mk _ _ rfl (hF _ _ _ (bq hg ht hx2)) (.inl rfl) (nb rfl) ?_;cbv;iterate 3 try(rw[hb1];cbv)
 cases hb2:(lt a3 x2)
 rotate_left
 ·rw[ab hb2] at h;cbv;iterate 5 try(rw[hb2];cbv)
  obtain rfl:=Option.some.inj h;exact ARet.mk trivial hX.symm
 rw[aa hb2] at h;cbv;iterate 2 try(rw[hb2];cbv)
 obtain⟨x3,hx3,h⟩:=ac h;try dsimp only at h
 refine ACall.mk _ _ rfl (hF _ _ _ (bR hg ht hx3)) (.inl rfl) (nb rfl) ?_;cbv;iterate 3 try(rw[hb2];cbv)
 cases hb3:(le x3 a3)
 rotate_left
 ·rw[ab hb3] at h;cbv;obtain rfl:=Option.some.inj h;exact ARet.mk trivial hX.symm
 rw[aa hb3] at h;cbv;obtain⟨x4,hx4,h⟩:=ac h;obtain⟨⟨x4_1_Thing,x4_1_At,x4_1_Kind,x4_1_Place,⟨x4_1_Trip_Leg,x4_1_Trip_Day⟩⟩,x4_2⟩:=x4;try dsimp only at h
 refine ACall.mk _ _ rfl (hF _ _ _ (nu hg ht hx4)) (.inl rfl) (nb rfl) ?_;cbv;obtain⟨x5,hx5,h⟩:=ac h;obtain⟨⟨x5_1_Thing,x5_1_At,x5_1_Kind,x5_1_Place,⟨x5_1_Trip_Leg,x5_1_Trip_Day⟩⟩,x5_2⟩:=x5;try dsimp only at h
 refine ACall.mk _ _ rfl (hF _ _ _ (nr hg ht hx5)) (.inl rfl) (nb rfl) ?_;cbv;have hb4:x4_2=true∨x4_2=false:=by cases x4_2<;>simp
 rcases hb4 with hb4|hb4
 ·rw[ab hb4] at h;have hK_:=h;subst hb4;have h:=hK_;clear hK_;cbv;iterate 3 try(rw[hb4];cbv)
  cases hb5:(eq x4_1_Kind 4)
  rotate_left
  ·rw[ab hb5] at h;cbv;obtain rfl:=Option.some.inj h;exact ARet.mk trivial hX.symm
  rw[aa hb5] at h;cbv;have hb6:x5_2=true∨x5_2=false:=by cases x5_2<;>simp
  rcases hb6 with hb6|hb6
  ·rw[ab hb6] at h;have hK_:=h;subst hb6;have h:=hK_;clear hK_;cbv;iterate 3 try(rw[hb6];cbv)
   cases hb7:(eq x5_1_Kind 2)
   ·rw[aa hb7] at h;cbv;iterate 6 try(rw[hb7];cbv)
    cases hb15:(eq x4_1_Kind 3)
    ·rw[aa hb15] at h;cbv;iterate 6 try(rw[hb15];cbv)
     obtain⟨x27,hx27,h⟩:=ac h;obtain⟨x27_Place,x27_At⟩:=x27;try dsimp only at h
     refine ACall.mk _ _ rfl (hF _ _ _ (a7 hg ht hx27)) (.inl rfl) (nb rfl) ?_;cbv;obtain⟨hc7,h⟩:=al h;refine AStep.mk hc7 ?_;cbv;obtain⟨x28,hx28,h⟩:=aE h;obtain⟨x28_From,x28_To,x28_Start,x28_Takes,x28_Days,x28_Room⟩:=x28;try dsimp only at h
     refine AGet.mk _ (aF hg ht hx28) ?_;cbv;obtain⟨x29,hx29,h⟩:=ac h;try dsimp only at h
     refine ACall.mk _ _ rfl (hF _ _ _ (bw hg ht hx29)) (.inl rfl) (nb rfl) ?_;cbv
     cases hb19:(lt x29 0)
     rotate_left
     ·rw[ab hb19] at h;cbv;iterate 5 try(rw[hb19];cbv)
      obtain rfl:=Option.some.inj h;exact ARet.mk trivial hX.symm
     rw[aa hb19] at h;cbv;iterate 3 try(rw[hb19];cbv)
     obtain⟨x30,hx30,h⟩:=ac h;try dsimp only at h
     refine ACall.mk _ _ rfl (hF _ _ _ (bq hg ht hx30)) (.inl rfl) (nb rfl) ?_;cbv;iterate 2 try(rw[hb19];cbv)
     cases hb20:(lt x30 x29)
     rotate_left
     ·rw[ab hb20] at h;cbv;obtain rfl:=Option.some.inj h;exact ARet.mk trivial hX.symm
     rw[aa hb20] at h;cbv;obtain⟨hc8,h⟩:=al h;refine AStep.mk hc8 ?_;cbv;refine AGet.mk _ (aF hg ht hx28) ?_;cbv;obtain⟨x31,hx31,h⟩:=ac h;try dsimp only at h
     refine ACall.mk _ _ rfl (hF _ _ _ (bR hg ht hx31)) (.inl rfl) (nb rfl) ?_;cbv;obtain⟨x32,hx32,h⟩:=ac h;try dsimp only at h
     refine ACall.mk _ _ rfl (hF _ _ _ (c9 hg ht hx32)) (.inl rfl) (nb rfl) ?_;cbv;obtain rfl:=Option.some.inj h;exact ARet.mk trivial hX.symm
    rw[ab hb15] at h;cbv;iterate 4 try(rw[hb15];cbv)
    obtain⟨x20,hx20,h⟩:=ac h;try dsimp only at h
    refine ACall.mk _ _ rfl (hF _ _ _ (bR hg ht hx20)) (.inl rfl) (nb rfl) ?_;cbv;iterate 2 try(rw[hb15];cbv)
    cases hb16:(lt a3 x20)
    rotate_left
    ·rw[ab hb16] at h;cbv;obtain rfl:=Option.some.inj h;exact ARet.mk trivial hX.symm
    rw[aa hb16] at h;cbv;obtain⟨x21,hx21,h⟩:=ac h;obtain⟨x21_Place,x21_At⟩:=x21;try dsimp only at h
    refine ACall.mk _ _ rfl (hF _ _ _ (a7 hg ht hx21)) (.inl rfl) (nb rfl) ?_;cbv;obtain⟨hc5,h⟩:=al h;refine AStep.mk hc5 ?_;cbv;obtain⟨x22,hx22,h⟩:=aE h;obtain⟨x22_From,x22_To,x22_Start,x22_Takes,x22_Days,x22_Room⟩:=x22;try dsimp only at h
    refine AGet.mk _ (aF hg ht hx22) ?_;cbv;obtain⟨x23,hx23,h⟩:=ac h;try dsimp only at h
    refine ACall.mk _ _ rfl (hF _ _ _ (bw hg ht hx23)) (.inl rfl) (nb rfl) ?_;cbv
    cases hb17:(lt x23 0)
    rotate_left
    ·rw[ab hb17] at h;cbv;iterate 5 try(rw[hb17];cbv)
     obtain rfl:=Option.some.inj h;exact ARet.mk trivial hX.symm
    rw[aa hb17] at h;cbv;iterate 3 try(rw[hb17];cbv)
    obtain⟨x24,hx24,h⟩:=ac h;try dsimp only at h
    refine ACall.mk _ _ rfl (hF _ _ _ (bq hg ht hx24)) (.inl rfl) (nb rfl) ?_;cbv;iterate 2 try(rw[hb17];cbv)
    cases hb18:(lt x24 x23)
    rotate_left
    ·rw[ab hb18] at h;cbv;obtain rfl:=Option.some.inj h;exact ARet.mk trivial hX.symm
    rw[aa hb18] at h;cbv;obtain⟨hc6,h⟩:=al h;refine AStep.mk hc6 ?_;cbv;refine AGet.mk _ (aF hg ht hx22) ?_;cbv;obtain⟨x25,hx25,h⟩:=ac h;try dsimp only at h
    refine ACall.mk _ _ rfl (hF _ _ _ (bR hg ht hx25)) (.inl rfl) (nb rfl) ?_;cbv;obtain⟨x26,hx26,h⟩:=ac h;try dsimp only at h
    refine ACall.mk _ _ rfl (hF _ _ _ (c9 hg ht hx26)) (.inl rfl) (nb rfl) ?_;cbv;obtain rfl:=Option.some.inj h;exact ARet.mk trivial hX.symm
   rw[ab hb7] at h;cbv;iterate 3 try(rw[hb7];cbv)
   obtain⟨x6,hx6,h⟩:=ac h;try dsimp only at h
   refine ACall.mk _ _ rfl (hF _ _ _ (bq hg ht hx6)) (.inl rfl) (nb rfl) ?_;cbv;iterate 3 try(rw[hb7];cbv)
   cases hb8:(le x6 a3)
   rotate_left
   ·rw[ab hb8] at h;cbv;obtain rfl:=Option.some.inj h;exact ARet.mk trivial hX.symm
   rw[aa hb8] at h;cbv
   cases hb9:(eq x4_1_Kind 3)
   ·rw[aa hb9] at h;cbv;iterate 6 try(rw[hb9];cbv)
    obtain⟨x14,hx14,h⟩:=ac h;obtain⟨x14_Place,x14_At⟩:=x14;try dsimp only at h
    refine ACall.mk _ _ rfl (hF _ _ _ (a7 hg ht hx14)) (.inl rfl) (nb rfl) ?_;cbv;obtain⟨hc3,h⟩:=al h;refine AStep.mk hc3 ?_;cbv;obtain⟨x15,hx15,h⟩:=aE h;obtain⟨x15_From,x15_To,x15_Start,x15_Takes,x15_Days,x15_Room⟩:=x15;try dsimp only at h
    refine AGet.mk _ (aF hg ht hx15) ?_;cbv;obtain⟨x16,hx16,h⟩:=ac h;try dsimp only at h
    refine ACall.mk _ _ rfl (hF _ _ _ (bw hg ht hx16)) (.inl rfl) (nb rfl) ?_;cbv
    cases hb13:(lt x16 0)
    rotate_left
    ·rw[ab hb13] at h;cbv;iterate 5 try(rw[hb13];cbv)
     obtain rfl:=Option.some.inj h;exact ARet.mk trivial hX.symm
    rw[aa hb13] at h;cbv;iterate 3 try(rw[hb13];cbv)
    obtain⟨x17,hx17,h⟩:=ac h;try dsimp only at h
    refine ACall.mk _ _ rfl (hF _ _ _ (bq hg ht hx17)) (.inl rfl) (nb rfl) ?_;cbv;iterate 2 try(rw[hb13];cbv)
    cases hb14:(lt x17 x16)
    rotate_left
    ·rw[ab hb14] at h;cbv;obtain rfl:=Option.some.inj h;exact ARet.mk trivial hX.symm
    rw[aa hb14] at h;cbv;obtain⟨hc4,h⟩:=al h;refine AStep.mk hc4 ?_;cbv;refine AGet.mk _ (aF hg ht hx15) ?_;cbv;obtain⟨x18,hx18,h⟩:=ac h;try dsimp only at h
    refine ACall.mk _ _ rfl (hF _ _ _ (bR hg ht hx18)) (.inl rfl) (nb rfl) ?_;cbv;obtain⟨x19,hx19,h⟩:=ac h;try dsimp only at h
    refine ACall.mk _ _ rfl (hF _ _ _ (c9 hg ht hx19)) (.inl rfl) (nb rfl) ?_;cbv;obtain rfl:=Option.some.inj h;exact ARet.mk trivial hX.symm
   rw[ab hb9] at h;cbv;iterate 4 try(rw[hb9];cbv)
   obtain⟨x7,hx7,h⟩:=ac h;try dsimp only at h
   refine ACall.mk _ _ rfl (hF _ _ _ (bR hg ht hx7)) (.inl rfl) (nb rfl) ?_;cbv;iterate 2 try(rw[hb9];cbv)
   cases hb10:(lt a3 x7)
   rotate_left
   ·rw[ab hb10] at h;cbv;obtain rfl:=Option.some.inj h;exact ARet.mk trivial hX.symm
   rw[aa hb10] at h;cbv;obtain⟨x8,hx8,h⟩:=ac h;obtain⟨x8_Place,x8_At⟩:=x8;try dsimp only at h
   refine ACall.mk _ _ rfl (hF _ _ _ (a7 hg ht hx8)) (.inl rfl) (nb rfl) ?_;cbv;obtain⟨hc1,h⟩:=al h;refine AStep.mk hc1 ?_;cbv;obtain⟨x9,hx9,h⟩:=aE h;obtain⟨x9_From,x9_To,x9_Start,x9_Takes,x9_Days,x9_Room⟩:=x9;try dsimp only at h
   refine AGet.mk _ (aF hg ht hx9) ?_;cbv;obtain⟨x10,hx10,h⟩:=ac h;try dsimp only at h
   refine ACall.mk _ _ rfl (hF _ _ _ (bw hg ht hx10)) (.inl rfl) (nb rfl) ?_;cbv
   cases hb11:(lt x10 0)
   rotate_left
   ·rw[ab hb11] at h;cbv;iterate 5 try(rw[hb11];cbv)
    obtain rfl:=Option.some.inj h;exact ARet.mk trivial hX.symm
   rw[aa hb11] at h;cbv;iterate 3 try(rw[hb11];cbv)
   obtain⟨x11,hx11,h⟩:=ac h;try dsimp only at h
   refine ACall.mk _ _ rfl (hF _ _ _ (bq hg ht hx11)) (.inl rfl) (nb rfl) ?_;cbv;iterate 2 try(rw[hb11];cbv)
   cases hb12:(lt x11 x10)
   rotate_left
   ·rw[ab hb12] at h;cbv;obtain rfl:=Option.some.inj h;exact ARet.mk trivial hX.symm
   rw[aa hb12] at h;cbv;obtain⟨hc2,h⟩:=al h;refine AStep.mk hc2 ?_;cbv;refine AGet.mk _ (aF hg ht hx9) ?_;cbv;obtain⟨x12,hx12,h⟩:=ac h;try dsimp only at h
   refine ACall.mk _ _ rfl (hF _ _ _ (bR hg ht hx12)) (.inl rfl) (nb rfl) ?_;cbv;obtain⟨x13,hx13,h⟩:=ac h;try dsimp only at h
   refine ACall.mk _ _ rfl (hF _ _ _ (c9 hg ht hx13)) (.inl rfl) (nb rfl) ?_;cbv;obtain rfl:=Option.some.inj h;exact ARet.mk trivial hX.symm
  rw[aa hb6] at h;have hK_:=h;subst hb6;have h:=hK_;clear hK_;cbv;iterate 3 try(rw[hb6];cbv)
  cases hb21:(eq x4_1_Kind 3)
  ·rw[aa hb21] at h;cbv;iterate 6 try(rw[hb21];cbv)
   obtain⟨x40,hx40,h⟩:=ac h;obtain⟨x40_Place,x40_At⟩:=x40;try dsimp only at h
   refine ACall.mk _ _ rfl (hF _ _ _ (a7 hg ht hx40)) (.inl rfl) (nb rfl) ?_;cbv;obtain⟨hc11,h⟩:=al h;refine AStep.mk hc11 ?_;cbv;obtain⟨x41,hx41,h⟩:=aE h;obtain⟨x41_From,x41_To,x41_Start,x41_Takes,x41_Days,x41_Room⟩:=x41;try dsimp only at h
   refine AGet.mk _ (aF hg ht hx41) ?_;cbv;obtain⟨x42,hx42,h⟩:=ac h;try dsimp only at h
   refine ACall.mk _ _ rfl (hF _ _ _ (bw hg ht hx42)) (.inl rfl) (nb rfl) ?_;cbv
   cases hb25:(lt x42 0)
   rotate_left
   ·rw[ab hb25] at h;cbv;iterate 5 try(rw[hb25];cbv)
    obtain rfl:=Option.some.inj h;exact ARet.mk trivial hX.symm
   rw[aa hb25] at h;cbv;iterate 3 try(rw[hb25];cbv)
   obtain⟨x43,hx43,h⟩:=ac h;try dsimp only at h
   refine ACall.mk _ _ rfl (hF _ _ _ (bq hg ht hx43)) (.inl rfl) (nb rfl) ?_;cbv;iterate 2 try(rw[hb25];cbv)
   cases hb26:(lt x43 x42)
   rotate_left
   ·rw[ab hb26] at h;cbv;obtain rfl:=Option.some.inj h;exact ARet.mk trivial hX.symm
   rw[aa hb26] at h;cbv;obtain⟨hc12,h⟩:=al h;refine AStep.mk hc12 ?_;cbv;refine AGet.mk _ (aF hg ht hx41) ?_;cbv;obtain⟨x44,hx44,h⟩:=ac h;try dsimp only at h
   refine ACall.mk _ _ rfl (hF _ _ _ (bR hg ht hx44)) (.inl rfl) (nb rfl) ?_;cbv;obtain⟨x45,hx45,h⟩:=ac h;try dsimp only at h
   refine ACall.mk _ _ rfl (hF _ _ _ (c9 hg ht hx45)) (.inl rfl) (nb rfl) ?_;cbv;obtain rfl:=Option.some.inj h;exact ARet.mk trivial hX.symm
  rw[ab hb21] at h;cbv;iterate 4 try(rw[hb21];cbv)
  obtain⟨x33,hx33,h⟩:=ac h;try dsimp only at h
  refine ACall.mk _ _ rfl (hF _ _ _ (bR hg ht hx33)) (.inl rfl) (nb rfl) ?_;cbv;iterate 2 try(rw[hb21];cbv)
  cases hb22:(lt a3 x33)
  rotate_left
  ·rw[ab hb22] at h;cbv;obtain rfl:=Option.some.inj h;exact ARet.mk trivial hX.symm
  rw[aa hb22] at h;cbv;obtain⟨x34,hx34,h⟩:=ac h;obtain⟨x34_Place,x34_At⟩:=x34;try dsimp only at h
  refine ACall.mk _ _ rfl (hF _ _ _ (a7 hg ht hx34)) (.inl rfl) (nb rfl) ?_;cbv;obtain⟨hc9,h⟩:=al h;refine AStep.mk hc9 ?_;cbv;obtain⟨x35,hx35,h⟩:=aE h;obtain⟨x35_From,x35_To,x35_Start,x35_Takes,x35_Days,x35_Room⟩:=x35;try dsimp only at h
  refine AGet.mk _ (aF hg ht hx35) ?_;cbv;obtain⟨x36,hx36,h⟩:=ac h;try dsimp only at h
  refine ACall.mk _ _ rfl (hF _ _ _ (bw hg ht hx36)) (.inl rfl) (nb rfl) ?_;cbv
  cases hb23:(lt x36 0)
  rotate_left
  ·rw[ab hb23] at h;cbv;iterate 5 try(rw[hb23];cbv)
   obtain rfl:=Option.some.inj h;exact ARet.mk trivial hX.symm
  rw[aa hb23] at h;cbv;iterate 3 try(rw[hb23];cbv)
  obtain⟨x37,hx37,h⟩:=ac h;try dsimp only at h
  refine ACall.mk _ _ rfl (hF _ _ _ (bq hg ht hx37)) (.inl rfl) (nb rfl) ?_;cbv;iterate 2 try(rw[hb23];cbv)
  cases hb24:(lt x37 x36)
  rotate_left
  ·rw[ab hb24] at h;cbv;obtain rfl:=Option.some.inj h;exact ARet.mk trivial hX.symm
  rw[aa hb24] at h;cbv;obtain⟨hc10,h⟩:=al h;refine AStep.mk hc10 ?_;cbv;refine AGet.mk _ (aF hg ht hx35) ?_;cbv;obtain⟨x38,hx38,h⟩:=ac h;try dsimp only at h
  refine ACall.mk _ _ rfl (hF _ _ _ (bR hg ht hx38)) (.inl rfl) (nb rfl) ?_;cbv;obtain⟨x39,hx39,h⟩:=ac h;try dsimp only at h
  refine ACall.mk _ _ rfl (hF _ _ _ (c9 hg ht hx39)) (.inl rfl) (nb rfl) ?_;cbv;obtain rfl:=Option.some.inj h;exact ARet.mk trivial hX.symm
 rw[aa hb4] at h;have hK_:=h;subst hb4;have h:=hK_;clear hK_;cbv;iterate 3 try(rw[hb4];cbv)
 obtain rfl:=Option.some.inj h;exact ARet.mk trivial hX.symm
end Go.Vs
