/- Part of the proofs of this seat's laws: Laf. No condition. -/
import Derived.Test.YticpmdigfdpmfaaGreatTy
import Derived.Test.YticpmdigfdpmfaaGreatTIRall
import Derived.Test.YticpmdigfdpmfaaGreatLad
import Derived.Test.YticpmdigfdpmfaaGreatLaa
import Derived.Test.YticpmdigfdpmfaaGreatLac
set_option linter.unusedVariables false
set_option linter.unusedSimpArgs false
set_option linter.unusedSectionVars false
namespace Go.Vs
set_option maxRecDepth 100000
def ir98:J:=js [jq 4 (.box 0),jq 8 (.alloc [.n 6,.n 1,.r (.v (.int .i64 0)),.r (.v (.int .i64 0)),.r (.v (.bool false)),.r (.v (.string .empty)),.r (.v (.int .i64 0)),.r (.v (.int .i64 0)),.r (.v (.bool false)),.r (.v (.bool false)),.r (.v (.string .empty)),.r (.v (.int .i64 0)),.r (.v (.string .empty)),.r (.v (.int .i64 0)),.r (.v (.bool false))])] [1,2,3,4,8] (js [jl 14 3 4,jm 15 3,jq 16 (.bld [.n 6,.n 1,.r (.v (.int .i64 0)),.r (.v (.int .i64 0)),.r (.v (.bool false)),.r (.v (.string .empty)),.r (.v (.int .i64 0)),.r (.v (.int .i64 0)),.r (.v (.bool false)),.r (.v (.bool false)),.r (.v (.string .empty)),.r (.v (.int .i64 0)),.r (.v (.string .empty)),.r (.v (.int .i64 0)),.r (.v (.bool false))] [(0,3,14),(3,1,15)]),jq 9 (.alloc [.n 6,.n 1,.r (.v (.int .i64 0)),.r (.v (.int .i64 0)),.r (.v (.bool false)),.r (.v (.string .empty)),.r (.v (.int .i64 0)),.r (.v (.int .i64 0)),.r (.v (.bool false)),.r (.v (.bool false)),.r (.v (.string .empty)),.r (.v (.int .i64 0)),.r (.v (.string .empty)),.r (.v (.int .i64 0)),.r (.v (.bool false))]),jp (.st 15 9 16)] [1,2,3,4,8,9] (js [jl 18 3 4,jm 19 1,jm 20 2,jm 21 3,jc 22 50 [18,19,20,21],jm 17 22,jq 23 (.ext 0 17),jq 24 (.ext 1 17),jq 10 (.alloc [.r (.v (.int .i64 0)),.r (.v (.int .i64 0)),.r (.v (.int .i64 0)),.r (.v (.string .empty)),.r (.v (.int .i64 0)),.r (.v (.int .i64 0))]),jp (.st 6 10 23),jm 11 24] [1,2,3,4,8,9,10,11] (js [jl 26 3 4,jm 27 1,jm 28 2,jm 29 3,jc 30 52 [26,27,28,29],jm 25 30,jq 31 (.ext 0 25),jq 32 (.ext 1 25),jq 12 (.alloc [.r (.v (.int .i64 0)),.r (.v (.int .i64 0)),.r (.v (.int .i64 0)),.r (.v (.string .empty)),.r (.v (.int .i64 0)),.r (.v (.int .i64 0))]),jp (.st 6 12 31),jm 13 32] [3,4,8,9,10,11,12,13] (.seq (.block 0 (js [jm 45 11,jq 46 (.not 45),jm 47 46,jv 48 47 (.fa 2 10),jv 49 47 (.ld false 1 48),jv 50 47 (.bin .eql .i 49 (ki 4)),jq 51 (.pick 47 kt 50),jm 44 51] [3,4,8,9,10,12,13,44] (.cond 44 (js [jl 52 15 9,jp (.st 15 8 52)] [8] .ret) (js [jm 54 13,jm 55 54,ju 56 55 (.fa 2 12),ju 57 55 (.ld false 1 56),ju 58 55 (.bin .eql .i 57 (ki 2)),jq 59 (.pick 55 58 kf),jm 60 59,ju 61 60 (.ld true 3 4),ju 62 60 (.fa 4 12),ju 63 60 (.ld true 2 62),ju 64 60 (.call 85 true [61,63]),ju 65 60 (.mv 3),ju 66 60 (.bin .leq .i 64 65),jq 67 (.pick 60 66 kf),jm 53 67] [3,4,8,9,10,12,13,53] (.cond 53 (js [jf 68 4 9,jp (.st 1 68 kt)] [3,4,8,9,12] (js [jm 69 3,jl 70 3 4,jf 71 4 12,jl 72 2 71,jc 73 86 [70,72],jb 74 .lss .i 69 73,jf 75 8 9,jp (.st 1 75 74)] [4,8,9,12] (js [jf 76 4 12,jl 77 2 76,jf 78 6 9,jp (.st 2 78 77)] [4,8,9,12] (.reg none [jf 79 0 4,jk 80 79,jf 81 4 12,jf 82 0 81,jk 83 82,ja 84 6 80 83,jf 85 1 84,jk 86 85,jf 87 5 9,jp (.st 1 87 86)] [8,9])))) (js [jf 89 2 10,jk 90 89,jb 91 .eql .i 90 (ki 3),jm 92 91,ju 93 92 (.ld true 3 4),ju 94 92 (.fa 4 10),ju 95 92 (.ld true 2 94),ju 96 92 (.call 86 true [93,
 95]),ju 97 92 (.mv 3),ju 98 92 (.bin .gtr .i 96 97),jq 99 (.pick 92 98 kf),jm 88 99] [3,4,8,9,10,12,13,88] (.cond 88 (js [jf 100 4 9,jp (.st 1 100 kt)] [3,4,8,9,10] (js [jl 101 3 4,jf 102 4 10,jl 103 2 102,jc 104 85 [101,103],jm 105 3,jb 106 .leq .i 104 105,jf 107 8 9,jp (.st 1 107 106)] [4,8,9,10] (js [jf 108 4 10,jl 109 2 108,jf 110 6 9,jp (.st 2 110 109)] [4,8,9,10] (.reg none [jf 111 0 4,jk 112 111,jf 113 4 10,jf 114 0 113,jk 115 114,ja 116 6 112 115,jf 117 0 116,jk 118 117,jf 119 5 9,jp (.st 1 119 118)] [8,9])))) (js [jf 33 9 9,jp (.st 1 33 kt)] [4,8,9,10,12,13] (js [jl 34 3 4,jl 35 6 10,jc 36 105 [34,35],jf 37 10 9,jp (.st 2 37 36)] [4,8,9,12,13] (js [jm 38 13,jf 39 14 9,jp (.st 1 39 38)] [4,8,9,12] (.reg none [jl 40 3 4,jl 41 6 12,jc 42 106 [40,41],jf 43 12 9,jp (.st 2 43 42)] [8,9]))))))))))) (js [jl 120 15 9,jp (.st 15 8 120)] [8] .ret)))))
def rv98:List RV:=[.c 8 true 15]
open Go.Proofs Go.IntWalk
set_option linter.unusedVariables false
set_option maxHeartbeats 4000000
def iy (g:G) (t:TE) (a0:Network) (a1:List Scan) (a2:Int) (a3:Int):Option Know:=
 cl (iI g t a0 a1 a2 a3) fun x1=>
 cl (iF g t a0 a1 a2 a3) fun x2=>
 br x1.2
 (
  br (g.eq x1.1.Kind 4)
  (
   some (Know.mk a0 a3 false ByteArray.empty (Trip.mk 0 0) false false (Spot.mk ByteArray.empty 0) (Spot.mk ByteArray.empty 0) false))
  (
   br x2.2
   (
    br (g.eq x2.1.Kind 2)
    (
     cl (bK g t a0 (Trip.mk x2.1.Trip.Leg x2.1.Trip.Day)) fun x3=>
     br (g.le x3 a3)
     (
      cl (ew g t a0 (Trip.mk x2.1.Trip.Leg x2.1.Trip.Day)) fun x4=>
      gd (((0:Int)≤x2.1.Trip.Leg))<|
      gt a0.Legs (g.nat x2.1.Trip.Leg) fun x5=>
      some (Know.mk a0 a3 true x5.To (Trip.mk x2.1.Trip.Leg x2.1.Trip.Day) (g.lt a3 x4) false (Spot.mk ByteArray.empty 0) (Spot.mk ByteArray.empty 0) false))
     (
      br (g.eq x1.1.Kind 3)
      (
       cl (ew g t a0 (Trip.mk x1.1.Trip.Leg x1.1.Trip.Day)) fun x6=>
       br (g.lt a3 x6)
       (
        cl (bK g t a0 (Trip.mk x1.1.Trip.Leg x1.1.Trip.Day)) fun x7=>
        gd (((0:Int)≤x1.1.Trip.Leg))<|
        gt a0.Legs (g.nat x1.1.Trip.Leg) fun x8=>
        some (Know.mk a0 a3 true x8.From (Trip.mk x1.1.Trip.Leg x1.1.Trip.Day) (g.le x7 a3) false (Spot.mk ByteArray.empty 0) (Spot.mk ByteArray.empty 0) false))
       (
        cl (bm g t a0 (Scan.mk x1.1.Thing x1.1.At x1.1.Kind x1.1.Place (Trip.mk x1.1.Trip.Leg x1.1.Trip.Day))) fun x9=>
        cl (bn g t a0 (Scan.mk x2.1.Thing x2.1.At x2.1.Kind x2.1.Place (Trip.mk x2.1.Trip.Leg x2.1.Trip.Day))) fun x10=>
        some (Know.mk a0 a3 false ByteArray.empty (Trip.mk 0 0) false true x9 x10 x2.2)))
      (
       cl (bm g t a0 (Scan.mk x1.1.Thing x1.1.At x1.1.Kind x1.1.Place (Trip.mk x1.1.Trip.Leg x1.1.Trip.Day))) fun x11=>
       cl (bn g t a0 (Scan.mk x2.1.Thing x2.1.At x2.1.Kind x2.1.Place (Trip.mk x2.1.Trip.Leg x2.1.Trip.Day))) fun x12=>
       some (Know.mk a0 a3 false ByteArray.empty (Trip.mk 0 0) false true x11 x12 x2.2))))
    (
     br (g.eq x1.1.Kind 3)
     (
      cl (ew g t a0 (Trip.mk x1.1.Trip.Leg x1.1.Trip.Day)) fun x13=>
      br (g.lt a3 x13)
      (
       cl (bK g t a0 (Trip.mk x1.1.Trip.Leg x1.1.Trip.Day)) fun x14=>
       gd (((0:Int)≤x1.1.Trip.Leg))<|
       gt a0.Legs (g.nat x1.1.Trip.Leg) fun x15=>
       some (Know.mk a0 a3 true x15.From (Trip.mk x1.1.Trip.Leg x1.1.Trip.Day) (g.le x14 a3) false (Spot.mk ByteArray.empty 0) (Spot.mk ByteArray.empty 0) false))
      (
       cl (bm g t a0 (Scan.mk x1.1.Thing x1.1.At x1.1.Kind x1.1.Place (Trip.mk x1.1.Trip.Leg x1.1.Trip.Day))) fun x16=>
       cl (bn g t a0 (Scan.mk x2.1.Thing x2.1.At x2.1.Kind x2.1.Place (Trip.mk x2.1.Trip.Leg x2.1.Trip.Day))) fun x17=>
       some (Know.mk a0 a3 false ByteArray.empty (Trip.mk 0 0) false true x16 x17 x2.2)))
     (
      cl (bm g t a0 (Scan.mk x1.1.Thing x1.1.At x1.1.Kind x1.1.Place (Trip.mk x1.1.Trip.Leg x1.1.Trip.Day))) fun x18=>
      cl (bn g t a0 (Scan.mk x2.1.Thing x2.1.At x2.1.Kind x2.1.Place (Trip.mk x2.1.Trip.Leg x2.1.Trip.Day))) fun x19=>
      some (Know.mk a0 a3 false ByteArray.empty (Trip.mk 0 0) false true x18 x19 x2.2))))
   (
    br (g.eq x1.1.Kind 3)
    (
     cl (ew g t a0 (Trip.mk x1.1.Trip.Leg x1.1.Trip.Day)) fun x20=>
     br (g.lt a3 x20)
     (
      cl (bK g t a0 (Trip.mk x1.1.Trip.Leg x1.1.Trip.Day)) fun x21=>
      gd (((0:Int)≤x1.1.Trip.Leg))<|
      gt a0.Legs (g.nat x1.1.Trip.Leg) fun x22=>
      some (Know.mk a0 a3 true x22.From (Trip.mk x1.1.Trip.Leg x1.1.Trip.Day) (g.le x21 a3) false (Spot.mk ByteArray.empty 0) (Spot.mk ByteArray.empty 0) false))
     (
      cl (bm g t a0 (Scan.mk x1.1.Thing x1.1.At x1.1.Kind x1.1.Place (Trip.mk x1.1.Trip.Leg x1.1.Trip.Day))) fun x23=>
      cl (bn g t a0 (Scan.mk x2.1.Thing x2.1.At x2.1.Kind x2.1.Place (Trip.mk x2.1.Trip.Leg x2.1.Trip.Day))) fun x24=>
      some (Know.mk a0 a3 false ByteArray.empty (Trip.mk 0 0) false true x23 x24 x2.2)))
    (
     cl (bm g t a0 (Scan.mk x1.1.Thing x1.1.At x1.1.Kind x1.1.Place (Trip.mk x1.1.Trip.Leg x1.1.Trip.Day))) fun x25=>
     cl (bn g t a0 (Scan.mk x2.1.Thing x2.1.At x2.1.Kind x2.1.Place (Trip.mk x2.1.Trip.Leg x2.1.Trip.Day))) fun x26=>
     some (Know.mk a0 a3 false ByteArray.empty (Trip.mk 0 0) false true x25 x26 x2.2)))))
 (
  some (Know.mk a0 a3 false ByteArray.empty (Trip.mk 0 0) false false (Spot.mk ByteArray.empty 0) (Spot.mk ByteArray.empty 0) false))
theorem pD {g:G} {t:TE} {a0:Network} {a1:List Scan} {a2:Int} {a3:Int} {r:Know} (hg:g=G.real) (ht:t=TE.real) (h:iy g t a0 a1 a2 a3=some r):Fn Tryz.prog 98 [.g (Network.rs t a0),.c (.s 6 (t.r_Scan a1)),.c (.v (.int .i64 a2)),.c (.v (.int .i64 a3))] (.g (Know.ds t r)):=by
 obtain⟨X,hX⟩:=aC (.g (Know.ds t r):X);rw[←hX];refine ay (rvs:=rv98) (j:=ir98) Tryz.func98 rfl (by kernel_rfl) (nb rfl) (by kernel_rfl) ac ?_;intro g2 F hg2 hF;obtain rfl:g2=g:=hg2.unique.trans hg.symm;clear hg2;obtain⟨_,lt,le,eq⟩:=g2;obtain⟨_⟩:=t
 obtain⟨a0_Legs,a0_Off,a0_Change⟩:=a0;unfold iy at h;try dsimp only at h
 cbv;obtain⟨x1,hx1,h⟩:=af h;obtain⟨⟨x1_1_Thing,x1_1_At,x1_1_Kind,x1_1_Place,⟨x1_1_Trip_Leg,x1_1_Trip_Day⟩⟩,x1_2⟩:=x1;try dsimp only at h
 refine ACall.mk _ _ rfl (hF _ _ _ (uW hg ht hx1)) (.inl rfl) (nb rfl) ?_;cbv;obtain⟨x2,hx2,h⟩:=af h;obtain⟨⟨x2_1_Thing,x2_1_At,x2_1_Kind,x2_1_Place,⟨x2_1_Trip_Leg,x2_1_Trip_Day⟩⟩,x2_2⟩:=x2;try dsimp only at h
 refine ACall.mk _ _ rfl (hF _ _ _ (uH hg ht hx2)) (.inl rfl) (nb rfl) ?_;cbv;have hb1:x1_2=true∨x1_2=false:=by cases x1_2<;>simp
 rcases hb1 with hb1|hb1
 ·rw[ab hb1] at h;have hK_:=h;subst hb1;have h:=hK_;clear hK_;cbv;iterate 3 try(rw[hb1];cbv)
  cases hb2:(eq x1_1_Kind 4)
  rotate_left
  ·rw[ab hb2] at h;cbv;obtain rfl:=Option.some.inj h;exact ARet.mk trivial hX.symm
  rw[aa hb2] at h;cbv;have hb3:x2_2=true∨x2_2=false:=by cases x2_2<;>simp
  rcases hb3 with hb3|hb3
  ·rw[ab hb3] at h;have hK_:=h;subst hb3;have h:=hK_;clear hK_;cbv;iterate 3 try(rw[hb3];cbv)
   cases hb4:(eq x2_1_Kind 2)
   ·rw[aa hb4] at h;cbv;iterate 6 try(rw[hb4];cbv)
    cases hb8:(eq x1_1_Kind 3)
    ·rw[aa hb8] at h;cbv;iterate 6 try(rw[hb8];cbv)
     obtain⟨x18,hx18,h⟩:=af h;obtain⟨x18_Place,x18_At⟩:=x18;try dsimp only at h
     refine ACall.mk _ _ rfl (hF _ _ _ (bT hg ht hx18)) (.inl rfl) (nb rfl) ?_;cbv;obtain⟨x19,hx19,h⟩:=af h;obtain⟨x19_Place,x19_At⟩:=x19;try dsimp only at h
     refine ACall.mk _ _ rfl (hF _ _ _ (bO hg ht hx19)) (.inl rfl) (nb rfl) ?_;cbv;obtain rfl:=Option.some.inj h;exact ARet.mk trivial hX.symm
    rw[ab hb8] at h;cbv;iterate 3 try(rw[hb8];cbv)
    obtain⟨x13,hx13,h⟩:=af h;try dsimp only at h
    refine ACall.mk _ _ rfl (hF _ _ _ (ee hg ht hx13)) (.inl rfl) (nb rfl) ?_;cbv;iterate 3 try(rw[hb8];cbv)
    cases hb9:(lt a3 x13)
    ·rw[aa hb9] at h;cbv;obtain⟨x16,hx16,h⟩:=af h;obtain⟨x16_Place,x16_At⟩:=x16;try dsimp only at h
     refine ACall.mk _ _ rfl (hF _ _ _ (bT hg ht hx16)) (.inl rfl) (nb rfl) ?_;cbv;obtain⟨x17,hx17,h⟩:=af h;obtain⟨x17_Place,x17_At⟩:=x17;try dsimp only at h
     refine ACall.mk _ _ rfl (hF _ _ _ (bO hg ht hx17)) (.inl rfl) (nb rfl) ?_;cbv;obtain rfl:=Option.some.inj h;exact ARet.mk trivial hX.symm
    rw[ab hb9] at h;cbv;obtain⟨x14,hx14,h⟩:=af h;try dsimp only at h
    refine ACall.mk _ _ rfl (hF _ _ _ (bX hg ht hx14)) (.inl rfl) (nb rfl) ?_;cbv;obtain⟨hc3,h⟩:=aj h;refine AStep.mk hc3 ?_;cbv;obtain⟨x15,hx15,h⟩:=aD h;obtain⟨x15_From,x15_To,x15_Start,x15_Takes,x15_Days,x15_Room⟩:=x15;try dsimp only at h
    refine AGet.mk _ (aY hg ht hx15) ?_;cbv;obtain rfl:=Option.some.inj h;exact ARet.mk trivial hX.symm
   rw[ab hb4] at h;cbv;iterate 3 try(rw[hb4];cbv)
   obtain⟨x3,hx3,h⟩:=af h;try dsimp only at h
   refine ACall.mk _ _ rfl (hF _ _ _ (bX hg ht hx3)) (.inl rfl) (nb rfl) ?_;cbv;iterate 3 try(rw[hb4];cbv)
   cases hb5:(le x3 a3)
   rotate_left
   ·rw[ab hb5] at h;cbv;obtain⟨x4,hx4,h⟩:=af h;try dsimp only at h
    refine ACall.mk _ _ rfl (hF _ _ _ (ee hg ht hx4)) (.inl rfl) (nb rfl) ?_;cbv;obtain⟨hc1,h⟩:=aj h;refine AStep.mk hc1 ?_;cbv;obtain⟨x5,hx5,h⟩:=aD h;obtain⟨x5_From,x5_To,x5_Start,x5_Takes,x5_Days,x5_Room⟩:=x5;try dsimp only at h
    refine AGet.mk _ (aY hg ht hx5) ?_;cbv;obtain rfl:=Option.some.inj h;exact ARet.mk trivial hX.symm
   rw[aa hb5] at h;cbv
   cases hb6:(eq x1_1_Kind 3)
   ·rw[aa hb6] at h;cbv;iterate 6 try(rw[hb6];cbv)
    obtain⟨x11,hx11,h⟩:=af h;obtain⟨x11_Place,x11_At⟩:=x11;try dsimp only at h
    refine ACall.mk _ _ rfl (hF _ _ _ (bT hg ht hx11)) (.inl rfl) (nb rfl) ?_;cbv;obtain⟨x12,hx12,h⟩:=af h;obtain⟨x12_Place,x12_At⟩:=x12;try dsimp only at h
    refine ACall.mk _ _ rfl (hF _ _ _ (bO hg ht hx12)) (.inl rfl) (nb rfl) ?_;cbv;obtain rfl:=Option.some.inj h;exact ARet.mk trivial hX.symm
   rw[ab hb6] at h;cbv;iterate 3 try(rw[hb6];cbv)
   obtain⟨x6,hx6,h⟩:=af h;try dsimp only at h
   refine ACall.mk _ _ rfl (hF _ _ _ (ee hg ht hx6)) (.inl rfl) (nb rfl) ?_;cbv;iterate 3 try(rw[hb6];cbv)
   cases hb7:(lt a3 x6)
   ·rw[aa hb7] at h;cbv;obtain⟨x9,hx9,h⟩:=af h;obtain⟨x9_Place,x9_At⟩:=x9;try dsimp only at h
    refine ACall.mk _ _ rfl (hF _ _ _ (bT hg ht hx9)) (.inl rfl) (nb rfl) ?_;cbv;obtain⟨x10,hx10,h⟩:=af h;obtain⟨x10_Place,x10_At⟩:=x10;try dsimp only at h
    refine ACall.mk _ _ rfl (hF _ _ _ (bO hg ht hx10)) (.inl rfl) (nb rfl) ?_;cbv;obtain rfl:=Option.some.inj h;exact ARet.mk trivial hX.symm
   rw[ab hb7] at h;cbv;obtain⟨x7,hx7,h⟩:=af h;try dsimp only at h
   refine ACall.mk _ _ rfl (hF _ _ _ (bX hg ht hx7)) (.inl rfl) (nb rfl) ?_;cbv;obtain⟨hc2,h⟩:=aj h;refine AStep.mk hc2 ?_;cbv;obtain⟨x8,hx8,h⟩:=aD h;obtain⟨x8_From,x8_To,x8_Start,x8_Takes,x8_Days,x8_Room⟩:=x8;try dsimp only at h
   refine AGet.mk _ (aY hg ht hx8) ?_;cbv;obtain rfl:=Option.some.inj h;exact ARet.mk trivial hX.symm
  rw[aa hb3] at h;have hK_:=h;subst hb3;have h:=hK_;clear hK_;cbv;iterate 3 try(rw[hb3];cbv)
  cases hb10:(eq x1_1_Kind 3)
  ·rw[aa hb10] at h;cbv;iterate 6 try(rw[hb10];cbv)
   obtain⟨x25,hx25,h⟩:=af h;obtain⟨x25_Place,x25_At⟩:=x25;try dsimp only at h
   refine ACall.mk _ _ rfl (hF _ _ _ (bT hg ht hx25)) (.inl rfl) (nb rfl) ?_;cbv;obtain⟨x26,hx26,h⟩:=af h;obtain⟨x26_Place,x26_At⟩:=x26;try dsimp only at h
   refine ACall.mk _ _ rfl (hF _ _ _ (bO hg ht hx26)) (.inl rfl) (nb rfl) ?_;cbv;obtain rfl:=Option.some.inj h;exact ARet.mk trivial hX.symm
  rw[ab hb10] at h;cbv;iterate 3 try(rw[hb10];cbv)
  obtain⟨x20,hx20,h⟩:=af h;try dsimp only at h
  refine ACall.mk _ _ rfl (hF _ _ _ (ee hg ht hx20)) (.inl rfl) (nb rfl) ?_;cbv;iterate 3 try(rw[hb10];cbv)
  cases hb11:(lt a3 x20)
  ·rw[aa hb11] at h;cbv;obtain⟨x23,hx23,h⟩:=af h;obtain⟨x23_Place,x23_At⟩:=x23;try dsimp only at h
   refine ACall.mk _ _ rfl (hF _ _ _ (bT hg ht hx23)) (.inl rfl) (nb rfl) ?_;cbv;obtain⟨x24,hx24,h⟩:=af h;obtain⟨x24_Place,x24_At⟩:=x24;try dsimp only at h
   refine ACall.mk _ _ rfl (hF _ _ _ (bO hg ht hx24)) (.inl rfl) (nb rfl) ?_;cbv;obtain rfl:=Option.some.inj h;exact ARet.mk trivial hX.symm
  rw[ab hb11] at h;cbv;obtain⟨x21,hx21,h⟩:=af h;try dsimp only at h
  refine ACall.mk _ _ rfl (hF _ _ _ (bX hg ht hx21)) (.inl rfl) (nb rfl) ?_;cbv;obtain⟨hc4,h⟩:=aj h;refine AStep.mk hc4 ?_;cbv;obtain⟨x22,hx22,h⟩:=aD h;obtain⟨x22_From,x22_To,x22_Start,x22_Takes,x22_Days,x22_Room⟩:=x22;try dsimp only at h
  refine AGet.mk _ (aY hg ht hx22) ?_;cbv;obtain rfl:=Option.some.inj h;exact ARet.mk trivial hX.symm
 rw[aa hb1] at h;have hK_:=h;subst hb1;have h:=hK_;clear hK_;cbv;iterate 3 try(rw[hb1];cbv)
 obtain rfl:=Option.some.inj h;exact ARet.mk trivial hX.symm
def Gh:J:=js [jq 5 (.box 0),jm 10 kf] [1,2,3,4,5] (.seq (js [jm 12 1,jm 13 3,jb 14 .eql .s 12 13] [1,2,3,4,5,14] (.cond 14 (js [jm 15 2,jm 16 4,jb 17 .leq .i 15 16,jm 10 17] [10] .ret) .skip)) (js [jl 18 3 5,jm 19 1,jm 20 3,jm 21 2,jc 22 29 [18,19,20,21],jm 11 22] [4,11] (js [jm 23 11,jq 24 (.bin .neq .i 23 (.k (V.i (-1)))),jm 25 24,ju 26 25 (.mv 11),ju 27 25 (.mv 4),ju 28 25 (.bin .leq .i 26 27),jq 29 (.pick 25 28 kf),jm 10 29] [10] .ret)))
def GJ:List RV:=[.t 10]
def dX (g:G) (t:TE) (a0:Network) (a1:ByteArray) (a2:Int) (a3:ByteArray) (a4:Int):Option Bool:=
 br (g.seq a1 a3)
 (
  some (g.le a2 a4))
 (
  cl (eP g t a0 a1 a3 a2) fun x1=>
  br (g.eq x1 (-1))
  (
   some false)
  (
   some (g.le x1 a4)))
theorem gV {g:G} {t:TE} {a0:Network} {a1:ByteArray} {a2:Int} {a3:ByteArray} {a4:Int} {r:Bool} (hg:g=G.real) (ht:t=TE.real) (h:dX g t a0 a1 a2 a3 a4=some r):Fn Tryz.prog 143 [.g (Network.rs t a0),.c (.v (.string a1)),.c (.v (.int .i64 a2)),.c (.v (.string a3)),.c (.v (.int .i64 a4))] (.c (.r (.v (.bool r)))):=by
 obtain⟨X,hX⟩:=aC (.c (.r (.v (.bool r))):X);rw[←hX];refine ay (rvs:=GJ) (j:=Gh) Tryz.func143 rfl (by kernel_rfl) (nb rfl) (by kernel_rfl) ac ?_;intro g2 F hg2 hF;obtain rfl:g2=g:=hg2.unique.trans hg.symm;clear hg2;obtain⟨_,_,_,eq,_,_,_,_,_,_,_,_,_,_,_,_,_,seq⟩:=g2;obtain⟨_⟩:=t
 obtain⟨a0_Legs,a0_Off,a0_Change⟩:=a0;unfold dX at h;try dsimp only at h
 cbv
 cases hb1:(seq a1 a3)
 rotate_left
 ·rw[ab hb1] at h;cbv;obtain rfl:=Option.some.inj h;exact ARet.mk trivial hX.symm
 rw[aa hb1] at h;cbv;obtain⟨x1,hx1,h⟩:=af h;try dsimp only at h
 refine ACall.mk _ _ rfl (hF _ _ _ (lE hg ht hx1)) (.inl rfl) (nb rfl) ?_;cbv
 cases hb2:(eq x1 (-1))
 rotate_left
 ·rw[ab hb2] at h;cbv;iterate 3 try(rw[hb2];cbv)
  obtain rfl:=Option.some.inj h;exact ARet.mk trivial hX.symm
 rw[aa hb2] at h;cbv;iterate 3 try(rw[hb2];cbv)
 obtain rfl:=Option.some.inj h;exact ARet.mk trivial hX.symm
def ir99:J:=js [jq 2 (.box 0),jm 4 kf] [1,2] (.seq (js [jf 5 4 2,jk 6 5] [1,2,6] (.cond 6 (js [jf 7 8 2,jk 8 7,jq 9 (.not 8),jm 10 9,ju 11 10 (.fa 5 2),ju 12 10 (.ld false 1 11),ju 13 10 (.mv 1),ju 14 10 (.bin .eql .s 12 13),jq 15 (.pick 10 14 kf),jm 4 15] [4] .ret) .skip)) (js [jf 16 9 2,jk 17 16,jm 18 17,ju 19 18 (.fa 0 2),ju 20 18 (.ld true 3 19),ju 21 18 (.fa 10 2),ju 22 18 (.fa 0 21),ju 23 18 (.ld false 1 22),ju 24 18 (.fa 10 2),ju 25 18 (.fa 1 24),ju 26 18 (.ld false 1 25),ju 27 18 (.mv 1),ju 28 18 (.fa 3 2),ju 29 18 (.ld false 1 28),ju 30 18 (.call 143 true [20,23,26,27,29]),jq 31 (.pick 18 30 kf),jm 32 31,ju 33 32 (.fa 14 2),ju 34 32 (.ld false 1 33),ju 35 32 (.not 34),ju 36 32 (.mv 35),jv 37 36 (.fa 0 2),jv 38 36 (.ld true 3 37),jv 39 36 (.mv 1),jv 40 36 (.fa 3 2),jv 41 36 (.ld false 1 40),jv 42 36 (.fa 12 2),jv 43 36 (.fa 0 42),jv 44 36 (.ld false 1 43),jv 45 36 (.fa 12 2),jv 46 36 (.fa 1 45),jv 47 36 (.ld false 1 46),jv 48 36 (.call 143 true [38,39,41,44,47]),ju 49 32 (.pick 36 kt 48),jq 50 (.pick 32 49 kf),jm 4 50] [4] .ret))
def rv99:List RV:=[.t 4]
def av (g:G) (t:TE) (a0:Know) (a1:ByteArray):Option Bool:=
 br a0.known
 (
  br a0.rides
  (
   some false)
  (
   some (g.seq a0.place a1)))
 (
  br a0.free
  (
   cl (dX g t (Network.mk a0.n.Legs a0.n.Off a0.n.Change) a0.from_.Place a0.from_.At a1 a0.at_) fun x1=>
   br x1
   (
    br a0.more
    (
     cl (dX g t (Network.mk a0.n.Legs a0.n.Off a0.n.Change) a1 a0.at_ a0.to.Place a0.to.At) fun x2=>
     some x2)
    (
     some true))
   (
    some false))
  (
   some false))
theorem dT {g:G} {t:TE} {a0:Know} {a1:ByteArray} {r:Bool} (hg:g=G.real) (ht:t=TE.real) (h:av g t a0 a1=some r):Fn Tryz.prog 99 [.g (Know.rs t a0),.c (.v (.string a1))] (.c (.r (.v (.bool r)))):=by
 obtain⟨X,hX⟩:=aC (.c (.r (.v (.bool r))):X);rw[←hX];refine ay (rvs:=rv99) (j:=ir99) Tryz.func99 rfl (by kernel_rfl) (nb rfl) (by kernel_rfl) ac ?_;intro g2 F hg2 hF;obtain rfl:g2=g:=hg2.unique.trans hg.symm;clear hg2;obtain⟨_⟩:=g2;obtain⟨_⟩:=t
 obtain⟨⟨a0_n_Legs,a0_n_Off,a0_n_Change⟩,a0_at_,a0_known,a0_place,⟨a0_ride_Leg,a0_ride_Day⟩,a0_rides,a0_free,⟨a0_from__Place,a0_from__At⟩,⟨a0_to_Place,a0_to_At⟩,a0_more⟩:=a0;unfold av at h;try dsimp only at h
 cbv
 cases hb1:a0_known
 rotate_left
 ·rw[ab hb1] at h;cbv
  cases hb2:a0_rides
  rotate_left
  ·rw[ab hb2] at h;cbv;iterate 4 try(rw[hb2];cbv)
   obtain rfl:=Option.some.inj h;exact ARet.mk trivial hX.symm
  rw[aa hb2] at h;cbv;iterate 4 try(rw[hb2];cbv)
  obtain rfl:=Option.some.inj h;exact ARet.mk trivial hX.symm
 rw[aa hb1] at h;cbv
 cases hb3:a0_free
 ·rw[aa hb3] at h;cbv;iterate 12 try(rw[hb3];cbv)
  obtain rfl:=Option.some.inj h;exact ARet.mk trivial hX.symm
 rw[ab hb3] at h;cbv;iterate 11 try(rw[hb3];cbv)
 obtain⟨x1,hx1,h⟩:=af h;try dsimp only at h
 refine ACall.mk _ _ rfl (hF _ _ _ (gV hg ht hx1)) (.inl rfl) (nb rfl) ?_;cbv;try(rw[hb3];cbv)
 cases hb4:x1
 ·rw[aa hb4] at h;cbv;iterate 5 try(rw[hb4];cbv)
  obtain rfl:=Option.some.inj h;exact ARet.mk trivial hX.symm
 rw[ab hb4] at h;cbv;iterate 3 try(rw[hb4];cbv)
 cases hb5:a0_more
 ·rw[aa hb5] at h;cbv;iterate 11 try(rw[hb5];cbv)
  try(rw[hb4];cbv)
  try(rw[hb5];cbv)
  try(rw[hb4];cbv)
  obtain rfl:=Option.some.inj h;exact ARet.mk trivial hX.symm
 rw[ab hb5] at h;cbv;iterate 11 try(rw[hb5];cbv)
 obtain⟨x2,hx2,h⟩:=af h;try dsimp only at h
 refine ACall.mk _ _ rfl (hF _ _ _ (gV hg ht hx2)) (.inl rfl) (nb rfl) ?_;cbv;try(rw[hb4];cbv)
 try(rw[hb5];cbv)
 try(rw[hb4];cbv)
 obtain rfl:=Option.some.inj h;exact ARet.mk trivial hX.symm
def He:J:=js [jq 2 (.box 0),jq 3 (.box 1),jm 4 kf] [2,3] (.seq (js [jf 6 4 2,jk 7 6] [2,3,7] (.cond 7 (js [jf 8 8 2,jk 9 8,jm 10 9,ju 11 10 (.fa 6 2),ju 12 10 (.ld true 2 11),ju 13 10 (.ld true 2 3),ju 14 10 (.eqs false [.i,.i] 12 13),jq 15 (.pick 10 14 kf),jm 4 15] [4] .ret) .skip)) (js [jf 16 0 2,jf 17 0 16,jk 18 17,jf 19 0 3,jk 20 19,ja 21 6 18 20,jl 22 6 21,jq 5 (.alloc [.r (.v (.string .empty)),.r (.v (.string .empty)),.r (.v (.int .i64 0)),.r (.v (.int .i64 0)),.r (.v (.int .i64 0)),.r (.v (.int .i64 0))]),jp (.st 6 5 22)] [2,3,5] (.seq (.seq (.reg (some [[],[0],[0,1],[0,1,2],[0,1,2,3],[0,1,2,3,4],[0,1,2,3],[0,1,2,3,4,5,6],[0,1,2,3],[0,1,2,3,8],[0,1,2,3,4,5,6,7,8,9],[0,1,2,3,4,5,6,7,8,9,10],[0,1,2,3,4,5,6,7,8,9,10,11],[0,1,2,3,4,5,6,7,8,9,10,11,12],[0,1,2,3,4,5,6,7,8,9,10,11,12,13],[0,1,2,3,4,5,6,7,8,9,10,11,12],[0,1,2,3,4,5,6,7,8,9,10,11,12,13,14,15],[0,1,2,3,4,5,6,7,8,9,10,11,12],[0,1,2,3,4,5,6,7,8,9,10,11,12,17],[0,1,2,3,4,5,6,7,8,9,10,11,12,13,14,15,16,17,18],[0,1,2,3,4,5,6,7,8,9,10,11,12,13,14,15,16,17,18,19],[0,1,2,3,4,5,6,7,8,9,10,11,12,13,14,15,16,17,18,19,20],[0,1,2,3,4,5,6,7,8,9,10,11,12,13,14,15,16,17,18,19,20,21],[0,1,2,3,4,5,6,7,8,9,10,11,12,13,14,15,16,17,18,19,20,21,22],[0,1,2,3,4,5,6,7,8,9,10,11,12,13,14,15,16,17,18,19,20,21],[0,1,2,3,4,5,6,7,8,9,10,11,12,13,14,15,16,17,18,19,20,21,24],[0,1,2,3,4,5,6,7,8,9,10,11,12,13,14,15,16,17,18,19,20,21,24,25],[0,1,2,3,4,5,6,7,8,9,10,11,12,13,14,15,16,17,18,19,20,21],[0,1,2,3,4,5,6,7,8,9,10,11,12,13,14,15,16,17,18,19,20,21,27],[0,1,2,3,4,5,6,7,8,9,10,11,12,13,14,15,16,17,18,19,20,21,27,28],[0,1,2,3,4,5,6,7,8,9,10,11,12,13,14,15,16,17,18,19,20,21],[0,1,2,3,4,5,6,7,8,9,10,11,12,13,14,15,16,17,18,19,20,21,30],[0,1,2,3,4,5,6,7,8,9,10,11,12,13,14,15,16,17,18,19,20,21],[0,1,2,3,4,5,6,7,8,9,10,11,12,13,14,15,16,17,18,19,20,21,32],[0,1,2,3,4,5,6,7,8,9,10,11,12,13,14,15,16,17,18,19,20,21],[0,1,2,3,4,5,6,7,8,9,10,11,12,13,14,15,16,17,18,19,20,21,32,33,34],[0,1,2,3,4,5,6,7,8,9,10,11,12,13,14,15,16,17,18,19,20,21,22,23,24,25,26,27,28,29,30,31,32,33,34,35],[0,1,2,3,4,5,6,7,8,9,10,11,12,13,14,15,16,17,18,19,20,21,22,23,24,25,26,27,28,29,30,31,32,33,34,35,36],[0,1,2,3,4,5,6,7,8,9,10,11,12,13,14,15,16,17,18,19,20,21,22,23,24,25,26,27,28,29,30,31,32,33,34,35,36,37]]) [jf 23 9 2,jk 24 23,jq 25 (.not 24),jm 26 25,jv 27 26 (.fa 0 2),jv
 28 26 (.ld true 3 27),jv 29 26 (.ld true 2 3),jv 30 26 (.call 85 true [28,29]),jv 31 26 (.fa 3 2),jv 32 26 (.ld false 1 31),jv 33 26 (.bin .gtr .i 30 32),jq 34 (.pick 26 kt 33),jm 35 34,jv 36 35 (.fa 0 2),jv 37 35 (.ld true 3 36),jv 38 35 (.ld true 2 3),jv 39 35 (.call 86 true [37,38]),jv 40 35 (.fa 3 2),jv 41 35 (.ld false 1 40),jv 42 35 (.bin .leq .i 39 41),jq 43 (.pick 35 kt 42),jm 44 43,jv 45 44 (.fa 0 2),jv 46 44 (.ld true 3 45),jv 47 44 (.fa 10 2),jv 48 44 (.fa 0 47),jv 49 44 (.ld false 1 48),jv 50 44 (.fa 10 2),jv 51 44 (.fa 1 50),jv 52 44 (.ld false 1 51),jv 53 44 (.fa 0 5),jv 54 44 (.ld false 1 53),jv 55 44 (.fa 0 2),jv 56 44 (.ld true 3 55),jv 57 44 (.ld true 2 3),jv 58 44 (.call 85 true [56,57]),jv 59 44 (.call 143 true [46,49,52,54,58]),jv 60 44 (.not 59),jq 61 (.pick 44 kt 60)] [2,3,5,61]) (.cond 61 (js [jm 4 kf] [4] .ret) .skip)) (.seq (.reg (some [[],[0],[0,1],[0,1,2],[0,1,2,3],[0,1,2,3,4],[0,1,2,3],[0,1,2,3,6],[0,1,2,3],[0,1,2,3,8],[0,1,2,3],[0,1,2,3,8,9,10],[0,1,2,3],[0,1,2,3,12],[0,1,2,3,12,13],[0,1,2,3],[0,1,2,3,15],[0,1,2,3,15,16],[0,1,2,3,4,5,6,7,8,9,10,11,12,13,14,15,16,17],[0,1,2,3,4,5,6,7,8,9,10,11,12,13,14,15,16,17,18],[0,1,2,3,4,5,6,7,8,9,10,11,12,13,14,15,16,17,18,19]]) [jf 62 14 2,jk 63 62,jq 64 (.not 63),jm 65 64,jv 66 65 (.fa 0 2),jv 67 65 (.ld true 3 66),jv 68 65 (.fa 1 5),jv 69 65 (.ld false 1 68),jv 70 65 (.fa 0 2),jv 71 65 (.ld true 3 70),jv 72 65 (.ld true 2 3),jv 73 65 (.call 86 true [71,72]),jv 74 65 (.fa 12 2),jv 75 65 (.fa 0 74),jv 76 65 (.ld false 1 75),jv 77 65 (.fa 12 2),jv 78 65 (.fa 1 77),jv 79 65 (.ld false 1 78),jv 80 65 (.call 143 true [67,69,73,76,79]),jq 81 (.pick 65 kt 80),jm 4 81] [4]) .ret))))
def G5:List RV:=[.t 4]
def aq (g:G) (t:TE) (a0:Know) (a1:Trip):Option Bool:=
 br a0.known
 (
  br a0.rides
  (
   some (g.all [(g.eq a0.ride.Leg a1.Leg),(g.eq a0.ride.Day a1.Day)]))
  (
   some false))
 (
  gd (((0:Int)≤a1.Leg))<|
  gt a0.n.Legs (g.nat a1.Leg) fun x1=>
  br a0.free
  (
   cl (bK g t (Network.mk a0.n.Legs a0.n.Off a0.n.Change) a1) fun x2=>
   br (g.lt a0.at_ x2)
   (
    some false)
   (
    cl (ew g t (Network.mk a0.n.Legs a0.n.Off a0.n.Change) a1) fun x3=>
    br (g.le x3 a0.at_)
    (
     some false)
    (
     cl (bK g t (Network.mk a0.n.Legs a0.n.Off a0.n.Change) a1) fun x4=>
     cl (dX g t (Network.mk a0.n.Legs a0.n.Off a0.n.Change) a0.from_.Place a0.from_.At x1.From x4) fun x5=>
     br x5
     (
      br a0.more
      (
       cl (ew g t (Network.mk a0.n.Legs a0.n.Off a0.n.Change) a1) fun x6=>
       cl (dX g t (Network.mk a0.n.Legs a0.n.Off a0.n.Change) x1.To x6 a0.to.Place a0.to.At) fun x7=>
       some x7)
      (
       some true))
     (
      some false))))
  (
   some false))
theorem bz {g:G} {t:TE} {a0:Know} {a1:Trip} {r:Bool} (hg:g=G.real) (ht:t=TE.real) (h:aq g t a0 a1=some r):Fn Tryz.prog 101 [.g (Know.rs t a0),.g (Trip.rs t a1)] (.c (.r (.v (.bool r)))):=by
 obtain⟨X,hX⟩:=aC (.c (.r (.v (.bool r))):X);rw[←hX];refine ay (rvs:=G5) (j:=He) Tryz.func101 rfl (by kernel_rfl) (nb rfl) (by kernel_rfl) ac ?_;intro g2 F hg2 hF;obtain rfl:g2=g:=hg2.unique.trans hg.symm;clear hg2;obtain⟨_,lt,le⟩:=g2;obtain⟨_⟩:=t
 obtain⟨⟨a0_n_Legs,a0_n_Off,a0_n_Change⟩,a0_at_,a0_known,a0_place,⟨a0_ride_Leg,a0_ride_Day⟩,a0_rides,a0_free,⟨a0_from__Place,a0_from__At⟩,⟨a0_to_Place,a0_to_At⟩,a0_more⟩:=a0;obtain⟨a1_Leg,a1_Day⟩:=a1;unfold aq at h;try dsimp only at h
 cbv
 cases hb1:a0_known
 rotate_left
 ·rw[ab hb1] at h;cbv
  cases hb2:a0_rides
  rotate_left
  ·rw[ab hb2] at h;cbv;iterate 4 try(rw[hb2];cbv)
   obtain rfl:=Option.some.inj h;exact ARet.mk trivial hX.symm
  rw[aa hb2] at h;cbv;iterate 4 try(rw[hb2];cbv)
  obtain rfl:=Option.some.inj h;exact ARet.mk trivial hX.symm
 rw[aa hb1] at h;cbv;obtain⟨hc1,h⟩:=aj h;refine AStep.mk hc1 ?_;cbv;obtain⟨x1,hx1,h⟩:=aD h;obtain⟨x1_From,x1_To,x1_Start,x1_Takes,x1_Days,x1_Room⟩:=x1;try dsimp only at h
 refine AGet.mk _ (aY hg ht hx1) ?_;cbv
 cases hb3:a0_free
 ·rw[aa hb3] at h;cbv;iterate 7 try(rw[hb3];cbv)
  obtain rfl:=Option.some.inj h;exact ARet.mk trivial hX.symm
 rw[ab hb3] at h;cbv;iterate 3 try(rw[hb3];cbv)
 obtain⟨x2,hx2,h⟩:=af h;try dsimp only at h
 refine ACall.mk _ _ rfl (hF _ _ _ (bX hg ht hx2)) (.inl rfl) (nb rfl) ?_;cbv;iterate 4 try(rw[hb3];cbv)
 cases hb4:(lt a0_at_ x2)
 rotate_left
 ·rw[ab hb4] at h;cbv;iterate 7 try(rw[hb4];cbv)
  obtain rfl:=Option.some.inj h;exact ARet.mk trivial hX.symm
 rw[aa hb4] at h;cbv;iterate 3 try(rw[hb4];cbv)
 obtain⟨x3,hx3,h⟩:=af h;try dsimp only at h
 refine ACall.mk _ _ rfl (hF _ _ _ (ee hg ht hx3)) (.inl rfl) (nb rfl) ?_;cbv;iterate 4 try(rw[hb4];cbv)
 cases hb5:(le x3 a0_at_)
 rotate_left
 ·rw[ab hb5] at h;cbv;iterate 16 try(rw[hb5];cbv)
  obtain rfl:=Option.some.inj h;exact ARet.mk trivial hX.symm
 rw[aa hb5] at h;cbv;iterate 13 try(rw[hb5];cbv)
 obtain⟨x4,hx4,h⟩:=af h;try dsimp only at h
 refine ACall.mk _ _ rfl (hF _ _ _ (bX hg ht hx4)) (.inl rfl) (nb rfl) ?_;cbv;try(rw[hb5];cbv)
 obtain⟨x5,hx5,h⟩:=af h;try dsimp only at h
 refine ACall.mk _ _ rfl (hF _ _ _ (gV hg ht hx5)) (.inl rfl) (nb rfl) ?_;cbv;iterate 2 try(rw[hb5];cbv)
 cases hb6:x5
 ·rw[aa hb6] at h;cbv;obtain rfl:=Option.some.inj h;exact ARet.mk trivial hX.symm
 rw[ab hb6] at h;cbv
 cases hb7:a0_more
 ·rw[aa hb7] at h;cbv;iterate 15 try(rw[hb7];cbv)
  obtain rfl:=Option.some.inj h;exact ARet.mk trivial hX.symm
 rw[ab hb7] at h;cbv;iterate 7 try(rw[hb7];cbv)
 obtain⟨x6,hx6,h⟩:=af h;try dsimp only at h
 refine ACall.mk _ _ rfl (hF _ _ _ (ee hg ht hx6)) (.inl rfl) (nb rfl) ?_;cbv;iterate 7 try(rw[hb7];cbv)
 obtain⟨x7,hx7,h⟩:=af h;try dsimp only at h
 refine ACall.mk _ _ rfl (hF _ _ _ (gV hg ht hx7)) (.inl rfl) (nb rfl) ?_;cbv;try(rw[hb7];cbv)
 obtain rfl:=Option.some.inj h;exact ARet.mk trivial hX.symm
def ir40:J:=js [jq 4 (.box 0),jq 8 (.alloc [.n 1,.n 2])] [1,2,3,4,8] (js [jq 16 (.bld [.n 1,.n 2] []),jq 9 (.alloc [.n 1,.n 2]),jp (.st 2 9 16)] [1,2,3,4,8,9] (.seq (js [jl 17 3 4,jc 18 54 [17],jq 19 (.not 18)] [1,2,3,4,8,9,19] (.cond 19 (js [jl 20 2 9,jp (.st 2 8 20)] [8] .ret) .skip)) (js [jl 21 3 4,jm 22 1,jm 23 2,jm 24 3,jc 25 98 [21,22,23,24],jq 10 (.alloc [.n 6,.n 1,.r (.v (.int .i64 0)),.r (.v (.int .i64 0)),.r (.v (.bool false)),.r (.v (.string .empty)),.r (.v (.int .i64 0)),.r (.v (.int .i64 0)),.r (.v (.bool false)),.r (.v (.bool false)),.r (.v (.string .empty)),.r (.v (.int .i64 0)),.r (.v (.string .empty)),.r (.v (.int .i64 0)),.r (.v (.bool false))]),jp (.st 15 10 25)] [4,8,9,10] (.seq (js [jl 26 3 4,jc 27 82 [26],jq 28 (.len false 27),jm 29 (ki 0)] [4,8,9,10,27,28,29] (.bl 0 (js [jb 30 .lss .i 29 28] [4,8,9,10,27,28,29,30] (.seq (.cond 30 .skip (.exit 0)) (.seq (.block 1 (js [ja 31 1 27 29,jk 32 31,jm 12 32] [4,8,9,10,12,27,28,29] (js [jl 33 15 10,jm 34 12,jc 35 99 [33,34]] [4,8,9,10,12,27,28,29,35] (.cond 35 (.reg none [jf 36 0 9,jk 37 36,jm 38 12,jq 39 (.bsl 1 [38]),jq 40 (.app 1 16 true 37 39),jf 41 0 9,jp (.st 1 41 40)] [4,8,9,10,27,28,29]) .skip)))) (.reg none [jb 42 .add .i 29 (ki 1),jm 29 42] [4,8,9,10,27,28,29])))))) (.seq (js [jm 13 (ki 0)] [4,8,9,10,13] (.bl 2 (.seq (js [jm 43 13,jb 44 .leq .i 43 (ki 60)] [4,8,9,10,13,44] (.cond 44 .skip (.exit 2))) (.seq (.block 3 (js [jf 47 0 4,jk 48 47,jq 49 (.len false 48),jm 50 (ki 0)] [4,8,9,10,13,49,50] (.bl 4 (js [jb 51 .lss .i 50 49] [4,8,9,10,13,49,50,51] (.seq (.cond 51 .skip (.exit 4)) (.seq (.block 5 (js [jm 52 50,jm 14 52] [4,8,9,10,13,14,49,50] (js [jm 53 14,jm 54 13,jq 55 (.bld [.r (.v (.int .i64 0)),.r (.v (.int .i64 0))] [(0,1,53),(1,1,54)]),jq 15 (.alloc [.r (.v (.int .i64 0)),.r (.v (.int .i64 0))]),jp (.st 2 15 55)] [4,8,9,10,13,14,15,49,50] (js [jf 56 1 9,jk 57 56,jq 58 (.len false 57),jb 59 .lss .i 58 (ki 60),jm 60 59,ju 61 60 (.ld true 3 4),ju 62 60 (.mv 14),ju 63 60 (.mv 13),ju 64 60 (.call 100 true [61,62,63]),jq 65 (.pick 60 64 kf),jm 66 65,ju 67 66 (.ld true 15 10),ju 68 66 (.ld true 2 15),ju 69 66 (.call 101 true [67,68]),jq 70 (.pick 66 69 kf)] [4,8,9,10,13,15,49,50,70] (.cond 70 (.reg none [jf 71 1 9,jk 72 71,jl 73 2 15,jq 74 (.bsl 2 [73]),jq 75 (.app 2 16 true 72 74),jf 76 1 9,jp (.st 1 76 75)] [4,8,9,10,13,49,50]) .skip))))) (.reg none [jb 77 .add .i 50 (ki 1),jm 50 77] [4,8,9,10,13,49,50]))))))) (.reg none [jm 45 13,jb 46 .add .i 45 (ki 1),jm 13 46] [4,8,9,10,13]))))) (js [jl 78 2 9,jp (.st 2 8 78)] [8] .ret))))))
def rv40:List RV:=[.c 8 true 2]
def bv (g:G) (t:TE) (a0:Network) (v2:Int) (x2:Know):List Leg→Int→List Trip→Option (List Trip)
 |[],v3,w3=>
  some w3
 |z3::ls3,v3,w3=>
  br (g.lt (g.int (g.dlen (t.d_Trip w3))) 60)
  (
   cl (kS g t a0 v3 v2) fun x6=>
   br x6
   (
    cl (aq g t (Know.mk (Network.mk x2.n.Legs x2.n.Off x2.n.Change) x2.at_ x2.known x2.place (Trip.mk x2.ride.Leg x2.ride.Day) x2.rides x2.free (Spot.mk x2.from_.Place x2.from_.At) (Spot.mk x2.to.Place x2.to.At) x2.more) (Trip.mk v3 v2)) fun x7=>
    br x7
    (
     lP ([(Trip.mk v3 v2)]) fun(l3:List Trip)=>
     gd (((w3.length+l3.length)*16≤70368744177664))<|
     lP (w3++l3) fun(l4:List Trip)=>
     bv g t a0 v2 x2 ls3 (g.wrap .i64 (g.add v3 1)) l4)
    (
     bv g t a0 v2 x2 ls3 (g.wrap .i64 (g.add v3 1)) w3))
   (
    bv g t a0 v2 x2 ls3 (g.wrap .i64 (g.add v3 1)) w3))
  (
   bv g t a0 v2 x2 ls3 (g.wrap .i64 (g.add v3 1)) w3)
def cS (g:G) (t:TE) (a0:Network) (x2:Know):Nat→Int→List Trip→Option (List Trip)
 |0,v2,w2=>
  some w2
 |n2+1,v2,w2=>
  cl (bv g t a0 v2 x2 a0.Legs 0 w2) fun y2=>
  cS g t a0 x2 n2 (g.wrap .i64 (g.add v2 1)) y2
def cr (g:G) (t:TE) (x2:Know) (x3:List ByteArray):Nat→Int→List ByteArray→Option (List ByteArray)
 |0,v1,w1=>
  some w1
 |n1+1,v1,w1=>
  gt x3 (g.nat v1) fun x4=>
  cl (av g t (Know.mk (Network.mk x2.n.Legs x2.n.Off x2.n.Change) x2.at_ x2.known x2.place (Trip.mk x2.ride.Leg x2.ride.Day) x2.rides x2.free (Spot.mk x2.from_.Place x2.from_.At) (Spot.mk x2.to.Place x2.to.At) x2.more) x4) fun x5=>
  br x5
  (
   lP ([x4]) fun(l1:List ByteArray)=>
   gd (((w1.length+l1.length)*16≤70368744177664))<|
   lP (w1++l1) fun(l2:List ByteArray)=>
   cr g t x2 x3 n1 (g.wrap .i64 (g.add v1 1)) l2)
  (
   cr g t x2 x3 n1 (g.wrap .i64 (g.add v1 1)) w1)
def fC (g:G) (t:TE) (a0:Network) (a1:List Scan) (a2:Int) (a3:Int):Option Belief:=
 cl (cN g t a0) fun x1=>
 br x1
 (
  cl (iy g t a0 a1 a2 a3) fun x2=>
  cl (dH g t a0) fun x3=>
  gd (((g.int (g.dlen (t.d_S x3)))≤9223372036854775807))<|
  cl (cr g t x2 x3 (aA 0 (g.int (g.dlen (t.d_S x3)))) 0 []) fun y1=>
  cl (cS g t a0 x2 (dt 0 60) 0 []) fun y3=>
  some (Belief.mk y1 y3))
 (
  some (Belief.mk [] []))
theorem kQ {g:G} {t:TE} {a0:Network} {a1:List Scan} {a2:Int} {a3:Int} {r:Belief} (hg:g=G.real) (ht:t=TE.real) (h:fC g t a0 a1 a2 a3=some r):Fn Tryz.prog 40 [.g (Network.rs t a0),.c (.s 6 (t.r_Scan a1)),.c (.v (.int .i64 a2)),.c (.v (.int .i64 a3))] (.g (Belief.ds t r)):=by
 obtain⟨X,hX⟩:=aC (.g (Belief.ds t r):X);rw[←hX];refine ay (rvs:=rv40) (j:=ir40) Tryz.func40 rfl (by kernel_rfl) (nb rfl) (by kernel_rfl) ac ?_;intro g2 F hg2 hF;obtain rfl:g2=g:=hg2.unique.trans hg.symm;clear hg2;obtain⟨wrap,lt,le,_,_,_,_,_,_,_,_,_,int,add,_,_,_,_,_,_,_,llen,_,_,dlen⟩:=g2;obtain⟨_,_,_,_,r_Leg,_,r_I64,_,_,d_Trip,_,_,_,d_S⟩:=t
 obtain⟨a0_Legs,a0_Off,a0_Change⟩:=a0;have hnil_Trip:d_Trip []=[]:=mS ht;have hnil_S:d_S []=[]:=yX ht;unfold fC at h;try dsimp only at h
 cbv;obtain⟨x1,hx1,h⟩:=af h;try dsimp only at h
 refine ACall.mk _ _ rfl (hF _ _ _ (fm hg ht hx1)) (.inl rfl) (nb rfl) ?_;cbv
 cases hb1:x1
 ·rw[aa hb1] at h;cbv;obtain rfl:=Option.some.inj h;exact ARet.mk trivial (by rw[hX];first|rfl|(simp only[Trip.ds,Scan.ds,Leg.ds,Network.ds,Booking.ds,Belief.ds,Cur.ds,Spot.ds,Know.ds,hnil_S,hnil_Trip];try rfl))
 rw[ab hb1] at h;cbv;obtain⟨x2,hx2,h⟩:=af h;obtain⟨⟨x2_n_Legs,x2_n_Off,x2_n_Change⟩,x2_at_,x2_known,x2_place,⟨x2_ride_Leg,x2_ride_Day⟩,x2_rides,x2_free,⟨x2_from__Place,x2_from__At⟩,⟨x2_to_Place,x2_to_At⟩,x2_more⟩:=x2;try dsimp only at h
 refine ACall.mk _ _ rfl (hF _ _ _ (pD hg ht hx2)) (.inl rfl) (nb rfl) ?_;cbv;obtain⟨x3,hx3,h⟩:=af h;try dsimp only at h
 refine ACall.mk _ _ rfl (hF _ _ _ (eZ hg ht hx3)) (.inl rfl) (nb rfl) ?_;cbv;obtain⟨hB1,h⟩:=aj h;obtain⟨o1,ho1,h⟩:=af h;try dsimp only at h
 try rw[hg] at ho1
 try rw[ht] at ho1
 refine ABL.mk {p:Nat×Int×List ByteArray//p.1=aA p.2.1 (int (dlen (d_S x3)))∧0≤p.2.1∧cr G.real TE.real (Know.mk (Network.mk x2_n_Legs x2_n_Off x2_n_Change) x2_at_ x2_known x2_place (Trip.mk x2_ride_Leg x2_ride_Day) x2_rides x2_free (Spot.mk x2_from__Place x2_from__At) (Spot.mk x2_to_Place x2_to_At) x2_more) x3 p.1 p.2.1 p.2.2=some o1} (fun⟨⟨n1,v1,w1⟩,_⟩=>({sl:=[(4,.c (.p 0 3 0 0)),(8,.c (.p 1 2 0 0)),(9,.c (.p 2 2 0 0)),(10,.c (.p 4 15 0 0)),(27,.c (.f 5 1 0 (dlen (d_S x3)))),(28,.c (.r (.v (.int .i64 (int (dlen (d_S x3))))))),(29,.c (.r (.v (.int .i64 v1))))],tab:=[(0,some (.foc 3 [] [.r (.s 6 (r_Leg a0_Legs)),.r (.s 1 (r_I64 a0_Off)),.r (.v (.int .i64 a0_Change))] [])),(1,some (.foc 2 [] [.n 1,.n 2] [])),(2,some (.foc 2 [] [.f 3 1 0 (dlen (d_S w1)),.n 2] [])),(3,some (.arr 1 (d_S w1))),(4,some (.foc 15 [] [.r (.s 6 (r_Leg x2_n_Legs)),.r (.s 1 (r_I64 x2_n_Off)),.r (.v (.int .i64 x2_n_Change)),.r (.v (.int .i64 x2_at_)),.r (.v (.bool x2_known)),.r (.v (.string x2_place)),.r (.v (.int .i64 x2_ride_Leg)),.r (.v (.int .i64 x2_ride_Day)),.r (.v (.bool x2_rides)),.r (.v (.bool x2_free)),.r (.v (.string x2_from__Place)),.r (.v (.int .i64 x2_from__At)),.r (.v (.string x2_to_Place)),.r (.v (.int .i64 x2_to_At)),.r (.v (.bool x2_more))] [])),(5,some (.arr 1 (d_S x3)))]}:St)) 6 (fun p=>p.1.1) ⟨(aA 0 (int (dlen (d_S x3))),0,[]),rfl,Int.le_refl _,ho1⟩ (List ByteArray) (fun y1=>({sl:=[(4,.c (.p 0 3 0 0)),(8,.c (.p 1 2 0 0)),(9,.c (.p 2 2 0 0)),(10,.c (.p 4 15 0 0))],tab:=[(0,some (.foc 3 [] [.r (.s 6 (r_Leg a0_Legs)),.r (.s 1 (r_I64 a0_Off)),.r (.v (.int .i64 a0_Change))] [])),(1,some (.foc 2 [] [.n 1,.n 2] [])),(2,some (.foc 2 [] [.f 3 1 0 (dlen (d_S y1)),.n 2] [])),(3,some (.arr 1 (d_S y1))),(4,some (.foc 15 [] [.r (.s 6 (r_Leg x2_n_Legs)),.r (.s 1 (r_I64 x2_n_Off)),.r (.v (.int .i64 x2_n_Change)),.r (.v (.int .i64 x2_at_)),.r (.v (.bool x2_known)),.r (.v (.string x2_place)),.r (.v (.int .i64 x2_ride_Leg)),.r (.v (.int .i64 x2_ride_Day)),.r (.v (.bool x2_rides)),.r (.v (.bool x2_free)),.r (.v (.string x2_from__Place)),.r (.v (.int .i64 x2_from__At)),.r (.v (.string x2_to_Place)),.r (.v (.int .i64 x2_to_At)),.r (.v (.bool x2_more))] []))]}:St)) 5 (fun y=>o1=y) ?_ ?_ ?_
 ·refine Wk.of [(0,some 0),(1,some 16),(2,some 48),(3,none),(4,some 208),(5,some 256)] rfl rfl ?_ ?_
  ·cbv;all_goals try rw[show dlen (d_S [])=0 from rl hg ht]
   all_goals try rw[hnil_S]
   all_goals exact⟨⟨_,rfl,rfl⟩,⟨_,rfl,rfl⟩,⟨_,rfl,rfl⟩,⟨_,rfl,rfl⟩,⟨_,rfl,rfl⟩,⟨_,rfl,rfl⟩,⟨_,rfl,rfl⟩,trivial⟩
  cbv;all_goals try rw[show dlen (d_S [])=0 from rl hg ht]
  all_goals try rw[hnil_S]
  all_goals exact⟨⟨_,rfl,_,rfl,rfl,rfl,rfl,trivial⟩,⟨_,rfl,_,rfl,rfl,rfl,trivial⟩,⟨_,rfl,_,rfl,⟨⟨_,rfl⟩,rfl,rfl⟩,rfl,trivial⟩,⟨_,rfl⟩,⟨_,rfl,_,rfl,rfl,rfl,rfl,rfl,rfl,rfl,rfl,rfl,rfl,rfl,rfl,rfl,rfl,rfl,rfl,trivial⟩,⟨_,rfl,rfl⟩,trivial⟩
 ·rintro⟨⟨n1,v1,w1⟩,hn1,hi1,h_1⟩ hq1;try dsimp only at hn1 hi1 h_1
  clear hq1;cbv;rcases n1 with _|n1
  ·have hb2:lt v1 (int (dlen (d_S x3)))=false:=bY hg hn1;rw[cr] at h_1;try rw[←hg] at h_1
   try rw[←ht] at h_1
   try dsimp only at h_1
   rw[hb2];cbv;refine⟨w1,Wk.of [(0,some 0),(1,some 1),(2,some 2),(3,some 3),(4,some 4)] rfl rfl ?_ ?_,(Option.some.inj h_1).symm⟩
   ·cbv;all_goals exact⟨⟨_,rfl,rfl⟩,⟨_,rfl,rfl⟩,⟨_,rfl,rfl⟩,⟨_,rfl,rfl⟩,trivial⟩
   cbv;all_goals exact⟨⟨_,rfl,_,rfl,rfl,rfl,rfl,trivial⟩,⟨_,rfl,_,rfl,rfl,rfl,trivial⟩,⟨_,rfl,_,rfl,rfl,rfl,trivial⟩,⟨_,rfl,rfl⟩,⟨_,rfl,_,rfl,rfl,rfl,rfl,rfl,rfl,rfl,rfl,rfl,rfl,rfl,rfl,rfl,rfl,rfl,rfl,trivial⟩,trivial⟩
  have hb2:lt v1 (int (dlen (d_S x3)))=true:=c7 hg hn1;have hl1:=fv hn1;have hs1:=d6 hg hn1 hi1 hB1 (by decide);rw[cr] at h_1;try rw[←hg] at h_1
  try rw[←ht] at h_1
  try dsimp only at h_1
  rw[hb2];cbv;refine AStep.mk (lz hg hi1 hl1) ?_;cbv;obtain⟨x4,hx4,h_1⟩:=aD h_1;try dsimp only at h_1
  refine AGet.mk _ (kb hg ht hx4) ?_;cbv;obtain⟨x5,hx5,h_1⟩:=af h_1;try dsimp only at h_1
  refine ACall.mk _ _ rfl (hF _ _ _ (dT hg ht hx5)) (.inl rfl) (nb rfl) ?_;cbv
  cases hb3:x5
  ·rw[aa hb3] at h_1;cbv;try rw[hg] at h_1
   try rw[ht] at h_1
   refine⟨⟨(n1,(wrap .i64 (add v1 1)),w1),hs1.1,hs1.2,h_1⟩,Wk.of [(0,some 0),(1,some 1),(2,some 2),(3,some 3),(4,some 4),(5,some 5)] rfl rfl ?_ ?_,Nat.lt_succ_self _⟩
   ·cbv;all_goals exact⟨⟨_,rfl,rfl⟩,⟨_,rfl,rfl⟩,⟨_,rfl,rfl⟩,⟨_,rfl,rfl⟩,⟨_,rfl,rfl⟩,⟨_,rfl,rfl⟩,⟨_,rfl,rfl⟩,trivial⟩
   cbv;all_goals exact⟨⟨_,rfl,_,rfl,rfl,rfl,rfl,trivial⟩,⟨_,rfl,_,rfl,rfl,rfl,trivial⟩,⟨_,rfl,_,rfl,rfl,rfl,trivial⟩,⟨_,rfl,rfl⟩,⟨_,rfl,_,rfl,rfl,rfl,rfl,rfl,rfl,rfl,rfl,rfl,rfl,rfl,rfl,rfl,rfl,rfl,rfl,trivial⟩,⟨_,rfl,rfl⟩,trivial⟩
  rw[ab hb3] at h_1;cbv;obtain⟨l1,hl1,h_1⟩:=ah h_1;try dsimp only at h_1
  refine ANew.mk (d_S l1) (dlen (d_S l1)) (by rw[←hl1];exact i5 hg ht [x4]) (by rw[←hl1];exact gQ hg ht [x4]) ?_;cbv;obtain⟨hc1,h_1⟩:=aj h_1;refine AStep.mk ⟨⟨rfl,(ap hg ht _)⟩,(dz hg ht (ap hg ht _) rfl hc1)⟩ ?_;cbv;obtain⟨l2,hl2,h_1⟩:=ah h_1;try dsimp only at h_1
  refine ANew.mk (d_S l2) (dlen (d_S l2)) (by rw[←hl2];exact i8 hg ht (ap hg ht _) rfl) (by rw[←hl2];exact gc hg ht (ap hg ht _) rfl) ?_;cbv;try rw[hg] at h_1
  try rw[ht] at h_1
  refine⟨⟨(n1,(wrap .i64 (add v1 1)),l2),hs1.1,hs1.2,h_1⟩,Wk.of [(0,some 0),(1,some 1),(2,some 2),(3,some 182),(4,some 4),(5,some 5)] rfl rfl ?_ ?_,Nat.lt_succ_self _⟩
  ·cbv;all_goals exact⟨⟨_,rfl,rfl⟩,⟨_,rfl,rfl⟩,⟨_,rfl,rfl⟩,⟨_,rfl,rfl⟩,⟨_,rfl,rfl⟩,⟨_,rfl,rfl⟩,⟨_,rfl,rfl⟩,trivial⟩
  cbv;all_goals exact⟨⟨_,rfl,_,rfl,rfl,rfl,rfl,trivial⟩,⟨_,rfl,_,rfl,rfl,rfl,trivial⟩,⟨_,rfl,_,rfl,rfl,rfl,trivial⟩,⟨_,rfl,rfl⟩,⟨_,rfl,_,rfl,rfl,rfl,rfl,rfl,rfl,rfl,rfl,rfl,rfl,rfl,rfl,rfl,rfl,rfl,rfl,trivial⟩,⟨_,rfl,rfl⟩,trivial⟩
 rintro y1 hy1;replace hy1:=hy1.symm;subst hy1;try dsimp only[lr,lrL,lrp,aZ] at h
 cbv;obtain⟨o2,ho2,h⟩:=af h;try dsimp only at h
 try rw[hg] at ho2
 try rw[ht] at ho2
 refine ABL.mk {p:Nat×Int×List Trip//p.1=dt p.2.1 60∧0≤p.2.1∧cS G.real TE.real (Network.mk a0_Legs a0_Off a0_Change) (Know.mk (Network.mk x2_n_Legs x2_n_Off x2_n_Change) x2_at_ x2_known x2_place (Trip.mk x2_ride_Leg x2_ride_Day) x2_rides x2_free (Spot.mk x2_from__Place x2_from__At) (Spot.mk x2_to_Place x2_to_At) x2_more) p.1 p.2.1 p.2.2=some o2} (fun⟨⟨n2,v2,w2⟩,_⟩=>({sl:=[(4,.c (.p 0 3 0 0)),(8,.c (.p 1 2 0 0)),(9,.c (.p 2 2 0 0)),(10,.c (.p 5 15 0 0)),(13,.c (.r (.v (.int .i64 v2))))],tab:=[(0,some (.foc 3 [] [.r (.s 6 (r_Leg a0_Legs)),.r (.s 1 (r_I64 a0_Off)),.r (.v (.int .i64 a0_Change))] [])),(1,some (.foc 2 [] [.n 1,.n 2] [])),(2,some (.foc 2 [] [.f 3 1 0 (dlen (d_S y1)),.f 4 2 0 (dlen (d_Trip w2))] [])),(3,some (.arr 1 (d_S y1))),(4,some (.arr 2 (d_Trip w2))),(5,some (.foc 15 [] [.r (.s 6 (r_Leg x2_n_Legs)),.r (.s 1 (r_I64 x2_n_Off)),.r (.v (.int .i64 x2_n_Change)),.r (.v (.int .i64 x2_at_)),.r (.v (.bool x2_known)),.r (.v (.string x2_place)),.r (.v (.int .i64 x2_ride_Leg)),.r (.v (.int .i64 x2_ride_Day)),.r (.v (.bool x2_rides)),.r (.v (.bool x2_free)),.r (.v (.string x2_from__Place)),.r (.v (.int .i64 x2_from__At)),.r (.v (.string x2_to_Place)),.r (.v (.int .i64 x2_to_At)),.r (.v (.bool x2_more))] []))]}:St)) 6 (fun p=>p.1.1) ⟨(dt 0 60,0,[]),rfl,Int.le_refl _,ho2⟩ (List Trip) (fun y3=>({sl:=[(8,.c (.p 0 2 0 0)),(9,.c (.p 1 2 0 0))],tab:=[(0,some (.foc 2 [] [.n 1,.n 2] [])),(1,some (.foc 2 [] [.f 2 1 0 (dlen (d_S y1)),.f 3 2 0 (dlen (d_Trip y3))] [])),(2,some (.arr 1 (d_S y1))),(3,some (.arr 2 (d_Trip y3)))]}:St)) 4 (fun y=>o2=y) ?_ ?_ ?_
 ·refine Wk.of [(0,some 0),(1,some 1),(2,some 2),(3,some 3),(4,none),(5,some 4)] rfl rfl ?_ ?_
  ·cbv;all_goals try rw[show dlen (d_Trip [])=0 from mt hg ht]
   all_goals try rw[hnil_Trip]
   all_goals exact⟨⟨_,rfl,rfl⟩,⟨_,rfl,rfl⟩,⟨_,rfl,rfl⟩,⟨_,rfl,rfl⟩,⟨_,rfl,rfl⟩,trivial⟩
  cbv;all_goals try rw[show dlen (d_Trip [])=0 from mt hg ht]
  all_goals try rw[hnil_Trip]
  all_goals exact⟨⟨_,rfl,_,rfl,rfl,rfl,rfl,trivial⟩,⟨_,rfl,_,rfl,rfl,rfl,trivial⟩,⟨_,rfl,_,rfl,rfl,⟨⟨_,rfl⟩,rfl,rfl⟩,trivial⟩,⟨_,rfl,rfl⟩,⟨_,rfl⟩,⟨_,rfl,_,rfl,rfl,rfl,rfl,rfl,rfl,rfl,rfl,rfl,rfl,rfl,rfl,rfl,rfl,rfl,rfl,trivial⟩,trivial⟩
 ·rintro⟨⟨n2,v2,w2⟩,hn2,hi2,h_2⟩ hq2;try dsimp only at hn2 hi2 h_2
  clear hq2;cbv;rcases n2 with _|n2
  ·have hb4:le v2 60=false:=j6 hg hn2;rw[cS] at h_2;try rw[←hg] at h_2
   try rw[←ht] at h_2
   try dsimp only at h_2
   rw[hb4];cbv;refine⟨w2,Wk.of [(0,some 1),(1,some 2),(2,some 3),(3,some 4)] rfl rfl ?_ ?_,(Option.some.inj h_2).symm⟩
   ·cbv;all_goals exact⟨⟨_,rfl,rfl⟩,⟨_,rfl,rfl⟩,trivial⟩
   cbv;all_goals exact⟨⟨_,rfl,_,rfl,rfl,rfl,trivial⟩,⟨_,rfl,_,rfl,rfl,rfl,trivial⟩,⟨_,rfl,rfl⟩,⟨_,rfl,rfl⟩,trivial⟩
  have hb4:le v2 60=true:=lL hg hn2;have hl2:=qQ hn2;have hs2:=nR hg hn2 hi2 (by decide) (by decide);rw[cS] at h_2;try rw[←hg] at h_2
  try rw[←ht] at h_2
  try dsimp only at h_2
  rw[hb4];cbv;obtain⟨o3,ho3,h_2⟩:=af h_2;try dsimp only at h_2
  try rw[hg] at ho3
  try rw[ht] at ho3
  refine ABL.mk {p:Nat×Int×List Trip//p.1≤a0_Legs.length∧p.2.1=((p.1:Nat):Int)∧bv G.real TE.real (Network.mk a0_Legs a0_Off a0_Change) v2 (Know.mk (Network.mk x2_n_Legs x2_n_Off x2_n_Change) x2_at_ x2_known x2_place (Trip.mk x2_ride_Leg x2_ride_Day) x2_rides x2_free (Spot.mk x2_from__Place x2_from__At) (Spot.mk x2_to_Place x2_to_At) x2_more) (List.drop p.1 a0_Legs) p.2.1 p.2.2=some o3} (fun⟨⟨k3,v3,w3⟩,_⟩=>({sl:=[(4,.c (.p 0 3 0 0)),(8,.c (.p 1 2 0 0)),(9,.c (.p 2 2 0 0)),(10,.c (.p 5 15 0 0)),(13,.c (.r (.v (.int .i64 v2)))),(49,.c (.r (.v (.int .i64 (llen (r_Leg a0_Legs)))))),(50,.c (.r (.v (.int .i64 v3))))],tab:=[(0,some (.foc 3 [] [.r (.s 6 (r_Leg a0_Legs)),.r (.s 1 (r_I64 a0_Off)),.r (.v (.int .i64 a0_Change))] [])),(1,some (.foc 2 [] [.n 1,.n 2] [])),(2,some (.foc 2 [] [.f 3 1 0 (dlen (d_S y1)),.f 4 2 0 (dlen (d_Trip w3))] [])),(3,some (.arr 1 (d_S y1))),(4,some (.arr 2 (d_Trip w3))),(5,some (.foc 15 [] [.r (.s 6 (r_Leg x2_n_Legs)),.r (.s 1 (r_I64 x2_n_Off)),.r (.v (.int .i64 x2_n_Change)),.r (.v (.int .i64 x2_at_)),.r (.v (.bool x2_known)),.r (.v (.string x2_place)),.r (.v (.int .i64 x2_ride_Leg)),.r (.v (.int .i64 x2_ride_Day)),.r (.v (.bool x2_rides)),.r (.v (.bool x2_free)),.r (.v (.string x2_from__Place)),.r (.v (.int .i64 x2_from__At)),.r (.v (.string x2_to_Place)),.r (.v (.int .i64 x2_to_At)),.r (.v (.bool x2_more))] []))]}:St)) 6 (fun p=>a0_Legs.length-p.1.1) ⟨(0,0,w2),Nat.zero_le _,rfl,ho3⟩ (List Trip) (fun y2=>({sl:=[(4,.c (.p 0 3 0 0)),(8,.c (.p 1 2 0 0)),(9,.c (.p 2 2 0 0)),(10,.c (.p 5 15 0 0)),(13,.c (.r (.v (.int .i64 v2))))],tab:=[(0,some (.foc 3 [] [.r (.s 6 (r_Leg a0_Legs)),.r (.s 1 (r_I64 a0_Off)),.r (.v (.int .i64 a0_Change))] [])),(1,some (.foc 2 [] [.n 1,.n 2] [])),(2,some (.foc 2 [] [.f 3 1 0 (dlen (d_S y1)),.f 4 2 0 (dlen (d_Trip y2))] [])),(3,some (.arr 1 (d_S y1))),(4,some (.arr 2 (d_Trip y2))),(5,some (.foc 15 [] [.r (.s 6 (r_Leg x2_n_Legs)),.r (.s 1 (r_I64 x2_n_Off)),.r (.v (.int .i64 x2_n_Change)),.r (.v (.int .i64 x2_at_)),.r (.v (.bool x2_known)),.r (.v (.string x2_place)),.r (.v (.int .i64 x2_ride_Leg)),.r (.v (.int .i64 x2_ride_Day)),.r (.v (.bool x2_rides)),.r (.v (.bool x2_free)),.r (.v (.string x2_from__Place)),.r (.v (.int .i64 x2_from__At)),.r (.v (.string x2_to_Place)),.r (.v (.int .i64 x2_to_At)),.r (.v (.bool x2_more))] []))]}:St)) 6 (fun y=>o3=y) ?_ ?_ ?_
  ·refine Wk.of [(0,some 0),(1,some 1),(2,some 2),(3,some 3),(4,some 4),(5,some 5)] rfl rfl ?_ ?_
   ·cbv;all_goals exact⟨⟨_,rfl,rfl⟩,⟨_,rfl,rfl⟩,⟨_,rfl,rfl⟩,⟨_,rfl,rfl⟩,⟨_,rfl,rfl⟩,⟨_,rfl,rfl⟩,⟨_,rfl,rfl⟩,trivial⟩
   cbv;all_goals exact⟨⟨_,rfl,_,rfl,rfl,rfl,rfl,trivial⟩,⟨_,rfl,_,rfl,rfl,rfl,trivial⟩,⟨_,rfl,_,rfl,rfl,rfl,trivial⟩,⟨_,rfl,rfl⟩,⟨_,rfl,rfl⟩,⟨_,rfl,_,rfl,rfl,rfl,rfl,rfl,rfl,rfl,rfl,rfl,rfl,rfl,rfl,rfl,rfl,rfl,rfl,trivial⟩,trivial⟩
  ·rintro⟨⟨k3,v3,w3⟩,hk3,hi3,h_3⟩ hq3;have hm3:=(hq3.2.2.1 0 _ _ _ _ 0 _ _ rfl rfl);try dsimp only at hk3 hi3 h_3
   clear hq3;cbv
   by_cases hc3_:k3<a0_Legs.length
   ·have hb5:lt v3 (llen (r_Leg a0_Legs))=true:=dC hg ht hi3 hc3_;have hs3:=fI hg ht hi3 hc3_ hm3;obtain⟨z3,hz3⟩:=aG hc3_;rw[ax hz3] at h_3;rw[bv] at h_3;obtain⟨z3_From,z3_To,z3_Start,z3_Takes,z3_Days,z3_Room⟩:=z3;try rw[←hg] at h_3
    try rw[←ht] at h_3
    try dsimp only at h_3
    rw[hb5];cbv
    cases hb6:(lt (int (dlen (d_Trip w3))) 60)
    ·rw[aa hb6] at h_3;cbv;iterate 4 try(rw[hb6];cbv)
     try rw[hg] at h_3
     try rw[ht] at h_3
     refine⟨⟨(k3+1,(wrap .i64 (add v3 1)),w3),hc3_,hs3,h_3⟩,Wk.of [(0,some 0),(1,some 1),(2,some 2),(3,some 3),(4,some 4),(5,some 5)] rfl rfl ?_ ?_,aK hc3_⟩
     ·cbv;all_goals exact⟨⟨_,rfl,rfl⟩,⟨_,rfl,rfl⟩,⟨_,rfl,rfl⟩,⟨_,rfl,rfl⟩,⟨_,rfl,rfl⟩,⟨_,rfl,rfl⟩,⟨_,rfl,rfl⟩,trivial⟩
     cbv;all_goals exact⟨⟨_,rfl,_,rfl,rfl,rfl,rfl,trivial⟩,⟨_,rfl,_,rfl,rfl,rfl,trivial⟩,⟨_,rfl,_,rfl,rfl,rfl,trivial⟩,⟨_,rfl,rfl⟩,⟨_,rfl,rfl⟩,⟨_,rfl,_,rfl,rfl,rfl,rfl,rfl,rfl,rfl,rfl,rfl,rfl,rfl,rfl,rfl,rfl,rfl,rfl,trivial⟩,trivial⟩
    rw[ab hb6] at h_3;cbv;iterate 3 try(rw[hb6];cbv)
    obtain⟨x6,hx6,h_3⟩:=af h_3;try dsimp only at h_3
    refine ACall.mk _ _ rfl (hF _ _ _ (nt hg ht hx6)) (.inl rfl) (nb rfl) ?_;cbv;try(rw[hb6];cbv)
    cases hb7:x6
    ·rw[aa hb7] at h_3;cbv;iterate 3 try(rw[hb7];cbv)
     try rw[hg] at h_3
     try rw[ht] at h_3
     refine⟨⟨(k3+1,(wrap .i64 (add v3 1)),w3),hc3_,hs3,h_3⟩,Wk.of [(0,some 0),(1,some 1),(2,some 2),(3,some 3),(4,some 4),(5,some 5)] rfl rfl ?_ ?_,aK hc3_⟩
     ·cbv;all_goals exact⟨⟨_,rfl,rfl⟩,⟨_,rfl,rfl⟩,⟨_,rfl,rfl⟩,⟨_,rfl,rfl⟩,⟨_,rfl,rfl⟩,⟨_,rfl,rfl⟩,⟨_,rfl,rfl⟩,trivial⟩
     cbv;all_goals exact⟨⟨_,rfl,_,rfl,rfl,rfl,rfl,trivial⟩,⟨_,rfl,_,rfl,rfl,rfl,trivial⟩,⟨_,rfl,_,rfl,rfl,rfl,trivial⟩,⟨_,rfl,rfl⟩,⟨_,rfl,rfl⟩,⟨_,rfl,_,rfl,rfl,rfl,rfl,rfl,rfl,rfl,rfl,rfl,rfl,rfl,rfl,rfl,rfl,rfl,rfl,trivial⟩,trivial⟩
    rw[ab hb7] at h_3;cbv;iterate 2 try(rw[hb7];cbv)
    obtain⟨x7,hx7,h_3⟩:=af h_3;try dsimp only at h_3
    refine ACall.mk _ _ rfl (hF _ _ _ (bz hg ht hx7)) (.inl rfl) (nb rfl) ?_;cbv;try(rw[hb7];cbv)
    cases hb8:x7
    ·rw[aa hb8] at h_3;cbv;try rw[hg] at h_3
     try rw[ht] at h_3
     refine⟨⟨(k3+1,(wrap .i64 (add v3 1)),w3),hc3_,hs3,h_3⟩,Wk.of [(0,some 0),(1,some 1),(2,some 2),(3,some 3),(4,some 4),(5,some 5)] rfl rfl ?_ ?_,aK hc3_⟩
     ·cbv;all_goals exact⟨⟨_,rfl,rfl⟩,⟨_,rfl,rfl⟩,⟨_,rfl,rfl⟩,⟨_,rfl,rfl⟩,⟨_,rfl,rfl⟩,⟨_,rfl,rfl⟩,⟨_,rfl,rfl⟩,trivial⟩
     cbv;all_goals exact⟨⟨_,rfl,_,rfl,rfl,rfl,rfl,trivial⟩,⟨_,rfl,_,rfl,rfl,rfl,trivial⟩,⟨_,rfl,_,rfl,rfl,rfl,trivial⟩,⟨_,rfl,rfl⟩,⟨_,rfl,rfl⟩,⟨_,rfl,_,rfl,rfl,rfl,rfl,rfl,rfl,rfl,rfl,rfl,rfl,rfl,rfl,rfl,rfl,rfl,rfl,trivial⟩,trivial⟩
    rw[ab hb8] at h_3;cbv;obtain⟨l3,hl3,h_3⟩:=ah h_3;try dsimp only at h_3
    refine ANew.mk (d_Trip l3) (dlen (d_Trip l3)) (by rw[←hl3];exact hG hg ht [(Trip.mk v3 v2)]) (by rw[←hl3];exact fG hg ht [(Trip.mk v3 v2)]) ?_;cbv;obtain⟨hc2,h_3⟩:=aj h_3;refine AStep.mk ⟨⟨rfl,(aQ hg ht _)⟩,(iY hg ht (aQ hg ht _) rfl hc2)⟩ ?_;cbv;obtain⟨l4,hl4,h_3⟩:=ah h_3;try dsimp only at h_3
    refine ANew.mk (d_Trip l4) (dlen (d_Trip l4)) (by rw[←hl4];exact oA hg ht (aQ hg ht _) rfl) (by rw[←hl4];exact mc hg ht (aQ hg ht _) rfl) ?_;cbv;try rw[hg] at h_3
    try rw[ht] at h_3
    refine⟨⟨(k3+1,(wrap .i64 (add v3 1)),l4),hc3_,hs3,h_3⟩,Wk.of [(0,some 0),(1,some 1),(2,some 2),(3,some 3),(4,some 438),(5,some 5)] rfl rfl ?_ ?_,aK hc3_⟩
    ·cbv;all_goals exact⟨⟨_,rfl,rfl⟩,⟨_,rfl,rfl⟩,⟨_,rfl,rfl⟩,⟨_,rfl,rfl⟩,⟨_,rfl,rfl⟩,⟨_,rfl,rfl⟩,⟨_,rfl,rfl⟩,trivial⟩
    cbv;all_goals exact⟨⟨_,rfl,_,rfl,rfl,rfl,rfl,trivial⟩,⟨_,rfl,_,rfl,rfl,rfl,trivial⟩,⟨_,rfl,_,rfl,rfl,rfl,trivial⟩,⟨_,rfl,rfl⟩,⟨_,rfl,rfl⟩,⟨_,rfl,_,rfl,rfl,rfl,rfl,rfl,rfl,rfl,rfl,rfl,rfl,rfl,rfl,rfl,rfl,rfl,rfl,trivial⟩,trivial⟩
   have hb5:lt v3 (llen (r_Leg a0_Legs))=false:=cP hg ht hi3 hc3_;rw[List.drop_of_length_le (Nat.le_of_not_lt hc3_)] at h_3;rw[bv] at h_3;try rw[←hg] at h_3
   try rw[←ht] at h_3
   try dsimp only at h_3
   rw[hb5];cbv;refine⟨w3,Wk.of [(0,some 0),(1,some 1),(2,some 2),(3,some 3),(4,some 4),(5,some 5)] rfl rfl ?_ ?_,(Option.some.inj h_3).symm⟩
   ·cbv;all_goals exact⟨⟨_,rfl,rfl⟩,⟨_,rfl,rfl⟩,⟨_,rfl,rfl⟩,⟨_,rfl,rfl⟩,⟨_,rfl,rfl⟩,trivial⟩
   cbv;all_goals exact⟨⟨_,rfl,_,rfl,rfl,rfl,rfl,trivial⟩,⟨_,rfl,_,rfl,rfl,rfl,trivial⟩,⟨_,rfl,_,rfl,rfl,rfl,trivial⟩,⟨_,rfl,rfl⟩,⟨_,rfl,rfl⟩,⟨_,rfl,_,rfl,rfl,rfl,rfl,rfl,rfl,rfl,rfl,rfl,rfl,rfl,rfl,rfl,rfl,rfl,rfl,trivial⟩,trivial⟩
  rintro y2 hy3;replace hy3:=hy3.symm;subst hy3;try dsimp only[lr,lrL,lrp,aZ] at h_2
  cbv;try rw[hg] at h_2
  try rw[ht] at h_2
  refine⟨⟨(n2,(wrap .i64 (add v2 1)),y2),hs2.1,hs2.2,h_2⟩,Wk.of [(0,some 0),(1,some 1),(2,some 2),(3,some 3),(4,some 4),(5,some 5)] rfl rfl ?_ ?_,Nat.lt_succ_self _⟩
  ·cbv;all_goals exact⟨⟨_,rfl,rfl⟩,⟨_,rfl,rfl⟩,⟨_,rfl,rfl⟩,⟨_,rfl,rfl⟩,⟨_,rfl,rfl⟩,trivial⟩
  cbv;all_goals exact⟨⟨_,rfl,_,rfl,rfl,rfl,rfl,trivial⟩,⟨_,rfl,_,rfl,rfl,rfl,trivial⟩,⟨_,rfl,_,rfl,rfl,rfl,trivial⟩,⟨_,rfl,rfl⟩,⟨_,rfl,rfl⟩,⟨_,rfl,_,rfl,rfl,rfl,rfl,rfl,rfl,rfl,rfl,rfl,rfl,rfl,rfl,rfl,rfl,rfl,rfl,trivial⟩,trivial⟩
 rintro y3 hy2;replace hy2:=hy2.symm;subst hy2;try dsimp only[lr,lrL,lrp,aZ] at h
 cbv;obtain rfl:=Option.some.inj h;exact ARet.mk ⟨⟨rfl,(ap hg ht _)⟩,⟨rfl,(aQ hg ht _)⟩⟩ hX.symm
def ir45:J:=js [jq 1 (.box 0),jm 2 (ki 0)] [1] (js [jf 3 0 1,jk 4 3,jq 5 (.len false 4),jf 6 1 1,jk 7 6,jq 8 (.len false 7),jb 9 .add .i 5 8,jm 2 9] [2] .ret)
def rv45:List RV:=[.t 2]
def kL (g:G) (t:TE) (a0:Belief):Int:=
 (g.wrap .i64 (g.add (g.llen (t.r_S a0.Places)) (g.llen (t.r_Trip a0.Rides))))
theorem sZ {g:G} {t:TE} {a0:Belief} {r:Int} (hg:g=G.real) (ht:t=TE.real) (h:kL g t a0=r):Fn Tryz.prog 45 [.g (Belief.rs t a0)] (.c (.r (.v (.int .i64 r)))):=by
 obtain⟨X,hX⟩:=aC (.c (.r (.v (.int .i64 r))):X);rw[←hX];refine ay (rvs:=rv45) (j:=ir45) Tryz.func45 rfl (by kernel_rfl) (nb rfl) (by kernel_rfl) ac ?_;intro g2 F hg2 hF;obtain rfl:g2=g:=hg2.unique.trans hg.symm;clear hg2;obtain⟨_⟩:=g2;obtain⟨_⟩:=t
 obtain⟨a0_Places,a0_Rides⟩:=a0;unfold kL at h;try dsimp only at h
 cbv;subst h;exact ARet.mk trivial hX.symm
def ir41:J:=js [jq 4 (.box 0),jm 8 kf] [1,2,3,4] (js [jl 9 3 4,jm 10 1,jm 11 2,jm 12 3,jc 13 40 [9,10,11,12],jc 14 45 [13],jb 15 .eql .i 14 (ki 1),jm 8 15] [8] .ret)
def rv41:List RV:=[.t 8]
def lg (g:G) (t:TE) (a0:Network) (a1:List Scan) (a2:Int) (a3:Int):Option Bool:=
 cl (fC g t a0 a1 a2 a3) fun x1=>
 lP (kL g t x1) fun x2=>
 some (g.eq x2 1)
theorem xP {g:G} {t:TE} {a0:Network} {a1:List Scan} {a2:Int} {a3:Int} {r:Bool} (hg:g=G.real) (ht:t=TE.real) (h:lg g t a0 a1 a2 a3=some r):Fn Tryz.prog 41 [.g (Network.rs t a0),.c (.s 6 (t.r_Scan a1)),.c (.v (.int .i64 a2)),.c (.v (.int .i64 a3))] (.c (.r (.v (.bool r)))):=by
 obtain⟨X,hX⟩:=aC (.c (.r (.v (.bool r))):X);rw[←hX];refine ay (rvs:=rv41) (j:=ir41) Tryz.func41 rfl (by kernel_rfl) (nb rfl) (by kernel_rfl) ac ?_;intro g2 F hg2 hF;obtain rfl:g2=g:=hg2.unique.trans hg.symm;clear hg2;obtain⟨_,_,_,_,_,_,_,_,_,_,_,_,_,_,_,_,_,_,_,_,_,_,_,_,dlen,_,_,_,rd⟩:=g2;obtain⟨_,_,_,_,_,_,_,_,r_Trip,d_Trip,_,_,r_S,d_S⟩:=t
 obtain⟨a0_Legs,a0_Off,a0_Change⟩:=a0;unfold lg at h;try dsimp only at h
 cbv;obtain⟨x1,hx1,h⟩:=af h;obtain⟨x1_Places,x1_Rides⟩:=x1;try dsimp only at h
 refine ACall.mk _ _ rfl (hF _ _ _ (kQ hg ht hx1)) (.inl rfl) (nb rfl) ?_;cbv;refine AStep.mk ⟨(en ht (ap hg ht _)),(Ay ht (aQ hg ht _))⟩ ?_;cbv;obtain⟨x2,hx2,h⟩:=ah h;try dsimp only at h
 refine ACall.mk _ _ (by rw[show rd (d_S x1_Places) 0 (dlen (d_S x1_Places))=r_S x1_Places from gp hg ht (ap hg ht _),show rd (d_Trip x1_Rides) 0 (dlen (d_Trip x1_Rides))=r_Trip x1_Rides from Dp hg ht (aQ hg ht _)];try rfl) (hF _ _ _ (sZ hg ht hx2)) (.inr rfl) (nb rfl) ?_
 cbv;obtain rfl:=Option.some.inj h;exact ARet.mk trivial hX.symm
def ir42:J:=js [jq 5 (.box 0),jq 9 (.box 4),jm 10 kf] [1,2,3,5,9] (.seq (.reg (some [[],[],[0,1],[0,1,2],[0,1,2,3],[0,1,2,3],[0,1,2,3],[0,1,2,3],[0,1,2,3,4,5,6,7],[0,1,2,3],[0,1,2,3,4,5,6,7,8,9],[0,1,2,3,4,5,6,7,8,9,10],[0,1,2,3,4,5,6,7,8,9,10,11]]) [jl 11 3 5,jl 12 2 9,jc 13 76 [11,12],jm 14 13,ju 15 14 (.ld true 3 5),ju 16 14 (.mv 1),ju 17 14 (.mv 2),ju 18 14 (.mv 3),ju 19 14 (.call 98 true [15,16,17,18]),ju 20 14 (.ld true 2 9),ju 21 14 (.call 101 true [19,20]),jq 22 (.pick 14 21 kf),jm 10 22] [10]) .ret)
def rv42:List RV:=[.t 10]
def jP (g:G) (t:TE) (a0:Network) (a1:List Scan) (a2:Int) (a3:Int) (a4:Trip):Option Bool:=
 cl (ge g t a0 a4) fun x1=>
 br x1
 (
  cl (iy g t a0 a1 a2 a3) fun x2=>
  cl (aq g t (Know.mk (Network.mk x2.n.Legs x2.n.Off x2.n.Change) x2.at_ x2.known x2.place (Trip.mk x2.ride.Leg x2.ride.Day) x2.rides x2.free (Spot.mk x2.from_.Place x2.from_.At) (Spot.mk x2.to.Place x2.to.At) x2.more) a4) fun x3=>
  some x3)
 (
  some false)
theorem vK {g:G} {t:TE} {a0:Network} {a1:List Scan} {a2:Int} {a3:Int} {a4:Trip} {r:Bool} (hg:g=G.real) (ht:t=TE.real) (h:jP g t a0 a1 a2 a3 a4=some r):Fn Tryz.prog 42 [.g (Network.rs t a0),.c (.s 6 (t.r_Scan a1)),.c (.v (.int .i64 a2)),.c (.v (.int .i64 a3)),.g (Trip.rs t a4)] (.c (.r (.v (.bool r)))):=by
 obtain⟨X,hX⟩:=aC (.c (.r (.v (.bool r))):X);rw[←hX];refine ay (rvs:=rv42) (j:=ir42) Tryz.func42 rfl (by kernel_rfl) (nb rfl) (by kernel_rfl) ac ?_;intro g2 F hg2 hF;obtain rfl:g2=g:=hg2.unique.trans hg.symm;clear hg2;obtain⟨_⟩:=g2;obtain⟨_⟩:=t
 obtain⟨a0_Legs,a0_Off,a0_Change⟩:=a0;obtain⟨a4_Leg,a4_Day⟩:=a4;unfold jP at h;try dsimp only at h
 cbv;obtain⟨x1,hx1,h⟩:=af h;try dsimp only at h
 refine ACall.mk _ _ rfl (hF _ _ _ (kB hg ht hx1)) (.inl rfl) (nb rfl) ?_;cbv
 cases hb1:x1
 ·rw[aa hb1] at h;cbv;iterate 7 try(rw[hb1];cbv)
  obtain rfl:=Option.some.inj h;exact ARet.mk trivial hX.symm
 rw[ab hb1] at h;cbv;iterate 4 try(rw[hb1];cbv)
 obtain⟨x2,hx2,h⟩:=af h;obtain⟨⟨x2_n_Legs,x2_n_Off,x2_n_Change⟩,x2_at_,x2_known,x2_place,⟨x2_ride_Leg,x2_ride_Day⟩,x2_rides,x2_free,⟨x2_from__Place,x2_from__At⟩,⟨x2_to_Place,x2_to_At⟩,x2_more⟩:=x2;try dsimp only at h
 refine ACall.mk _ _ rfl (hF _ _ _ (pD hg ht hx2)) (.inl rfl) (nb rfl) ?_;cbv;iterate 2 try(rw[hb1];cbv)
 obtain⟨x3,hx3,h⟩:=af h;try dsimp only at h
 refine ACall.mk _ _ rfl (hF _ _ _ (bz hg ht hx3)) (.inl rfl) (nb rfl) ?_;cbv;try(rw[hb1];cbv)
 obtain rfl:=Option.some.inj h;exact ARet.mk trivial hX.symm
end Go.Vs
