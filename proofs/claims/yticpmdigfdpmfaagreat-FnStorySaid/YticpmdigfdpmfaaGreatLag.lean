/- Part of the proofs of this seat's laws: Lag. No condition. -/
import Derived.Test.YticpmdigfdpmfaaGreatTy
import Derived.Test.YticpmdigfdpmfaaGreatTIRall
import Derived.Test.YticpmdigfdpmfaaGreatLaa
import Derived.Test.YticpmdigfdpmfaaGreatLab
import Derived.Test.YticpmdigfdpmfaaGreatLac
import Derived.Test.YticpmdigfdpmfaaGreatLad
set_option linter.unusedVariables false
set_option linter.unusedSimpArgs false
set_option linter.unusedSectionVars false
namespace Go.Vs
set_option maxRecDepth 100000
def ir3:J:=js [jm 2 kf] [0] (.seq (js [jm 13 0,jc 14 11 [13]] [0,14] (.cond 14 (js [jm 2 kt] [2] .ret) .skip)) (js [jm 16 0,jq 17 (.call 12 false [16]),jm 15 17,jq 18 (.ext 0 15),jq 19 (.ext 1 15),jq 20 (.ext 2 15),jq 21 (.ext 3 15),jq 3 (.alloc [.n 6,.n 1,.r (.v (.int .i64 0))]),jp (.st 3 3 18),jm 4 19,jm 5 20,jm 6 21] [0,3,4,5,6] (js [jl 23 3 3,jm 24 4,jm 25 5,jm 26 6,jq 27 (.call 13 false [23,24,25,26]),jm 22 27,jq 28 (.ext 0 22),jq 29 (.ext 1 22),jm 7 28,jm 8 29] [0,3,4,5,6,7,8] (.seq (js [jl 31 3 3,jm 32 4,jm 33 5,jm 34 6,jq 35 (.call 14 false [31,32,33,34]),jm 30 35,jq 36 (.ext 0 30),jq 37 (.ext 1 30),jm 9 36,jm 10 37] [0,3,4,6,7,8,10] (js [jm 38 8,jm 39 10,jb 40 .neq .b 38 39] [0,3,4,6,7,8,40] (.cond 40 (js [jm 2 kf] [2] .ret) .skip))) (.seq (js [jm 41 8,jq 42 (.not 41),jm 43 42,jv 44 43 (.mv 6),jv 45 43 (.bin .lss .i 44 (ki 0)),jq 46 (.pick 43 kt 45)] [0,3,4,6,7,46] (.cond 46 (js [jm 2 kt] [2] .ret) .skip)) (js [jl 47 3 3,jm 48 7,jm 49 4,jm 50 6,jq 51 (.call 16 false [47,48,(ki 3),49,50]),jm 52 0,jc 53 17 [52,(ki 1)],jq 54 (.call 15 false [51,53]),jm 11 54] [3,11] (js [jl 55 3 3,jm 56 11,jq 57 (.call 18 false [55,56,(ki 3)]),jm 12 57] [3,11,12] (js [jl 58 3 3,jm 59 11,jq 60 (.call 19 false [58,59,(ki 3)]),jq 61 (.len false 60),jb 62 .eql .i 61 (ki 0),jm 63 62,ju 64 63 (.ld true 3 3),ju 65 63 (.mv 11),ju 66 63 (.call 21 false [64,65,(ki 3)]),ju 67 63 (.mv 12),ju 68 63 (.call 20 true [66,67]),jq 69 (.pick 63 68 kf),jm 70 69,ju 71 70 (.mv 12),ju 72 70 (.len false 71),ju 73 70 (.mv 11),ju 74 70 (.len false 73),ju 75 70 (.bin .eql .i 72 74),jq 76 (.pick 70 75 kf),jm 2 76] [2] .ret))))))))
def rv3:List RV:=[.t 2]
open Go.Proofs Go.IntWalk
set_option linter.unusedVariables false
set_option maxHeartbeats 4000000
def jI (g:G) (t:TE) (a0:List Int):Option Bool:=
 lP (pA g t a0) fun x1=>
 br x1
 (
  some true)
 (
  cl (dJ g t a0) fun x2=>
  cl (gB g t (Network.mk x2.1.Legs x2.1.Off x2.1.Change) x2.2.1 x2.2.2.1 x2.2.2.2) fun x3=>
  cl (gI g t (Network.mk x2.1.Legs x2.1.Off x2.1.Change) x2.2.1 x2.2.2.1 x2.2.2.2) fun x4=>
  br x3.2
  (
   br x4.2
   (
    br (g.lt x2.2.2.2 0)
    (
     some true)
    (
     cl (kO g t (Network.mk x2.1.Legs x2.1.Off x2.1.Change) x3.1 3 x2.2.1 x2.2.2.2) fun x5=>
     cl (sR g t a0 1) fun x6=>
     cl (oW g t x5 x6) fun x7=>
     cl (gN g t (Network.mk x2.1.Legs x2.1.Off x2.1.Change) x7 3) fun x8=>
     cl (jH g t (Network.mk x2.1.Legs x2.1.Off x2.1.Change) x7 3) fun x9=>
     br (g.eq (g.llen (t.r_I64 x9)) 0)
     (
      cl (gC g t (Network.mk x2.1.Legs x2.1.Off x2.1.Change) x7 3) fun x10=>
      cl (n5 g t x10 x8) fun x11=>
      br x11
      (
       some (g.eq (g.llen (t.r_Scan x8)) (g.llen (t.r_Scan x7))))
      (
       some false))
     (
      some false)))
   (
    some false))
  (
   br x4.2
   (
    some false)
   (
    some true)))
theorem xw {g:G} {t:TE} {a0:List Int} {r:Bool} (hg:g=G.real) (ht:t=TE.real) (h:jI g t a0=some r):Fn Tryz.prog 3 [.c (.s 1 (t.r_U8 a0))] (.c (.r (.v (.bool r)))):=by
 obtain⟨X,hX⟩:=aC (.c (.r (.v (.bool r))):X);rw[←hX];refine ay (rvs:=rv3) (j:=ir3) Tryz.func3 rfl (by kernel_rfl) (nb rfl) (by kernel_rfl) ac ?_;intro g2 F hg2 hF;obtain rfl:g2=g:=hg2.unique.trans hg.symm;clear hg2;obtain⟨_,lt,_,eq,_,_,_,_,_,_,_,_,_,_,_,_,_,_,_,_,_,llen,_,_,_,_,_,_,_,rda⟩:=g2;obtain⟨_,_,r_Scan,d_Scan,r_Leg,d_Leg,r_I64,d_I64,r_Trip,d_Trip⟩:=t
 have hrda_Scan:∀l,rda (d_Scan l)=r_Scan l:=sw hg ht;have hrda_Leg:∀l,rda (d_Leg l)=r_Leg l:=qe hg ht;have hrda_I64:∀l,rda (d_I64 l)=r_I64 l:=np hg ht;have hrda_Trip:∀l,rda (d_Trip l)=r_Trip l:=qW hg ht;unfold jI at h;try dsimp only at h
 cbv;obtain⟨x1,hx1,h⟩:=ah h;try dsimp only at h
 refine ACall.mk _ _ rfl (hF _ _ _ (uR hg ht hx1)) (.inl rfl) (nb rfl) ?_;cbv
 cases hb1:x1
 rotate_left
 ·rw[ab hb1] at h;cbv;obtain rfl:=Option.some.inj h;exact ARet.mk trivial hX.symm
 rw[aa hb1] at h;cbv;obtain⟨x2,hx2,h⟩:=af h;obtain⟨⟨x2_1_Legs,x2_1_Off,x2_1_Change⟩,x2_2_1,x2_2_2_1,x2_2_2_2⟩:=x2;try dsimp only at h
 refine ACallR.mk _ _ (.u [.g [.r (.s 6 (r_Leg x2_1_Legs)),.r (.s 1 (r_I64 x2_1_Off)),.r (.v (.int .i64 x2_1_Change))],.c (.r (.v (.string x2_2_1))),.c (.r (.v (.string x2_2_2_1))),.c (.r (.v (.int .i64 x2_2_2_2)))]) rfl (hF _ _ _ (ik hg ht hx2)) (.inl rfl) (nb rfl) (by cbv;(try simp only[hrda_I64,hrda_Leg])) ?_;cbv;obtain⟨x3,hx3,h⟩:=af h;obtain⟨x3_1,x3_2⟩:=x3;try dsimp only at h
 refine ACallR.mk _ _ (.u [.c (.r (.s 2 (r_Trip x3_1))),.c (.r (.v (.bool x3_2)))]) rfl (hF _ _ _ (ll hg ht hx3)) (.inl rfl) (nb rfl) (by cbv;(try simp only[hrda_Trip])) ?_;cbv;obtain⟨x4,hx4,h⟩:=af h;obtain⟨x4_1,x4_2⟩:=x4;try dsimp only at h
 refine ACallR.mk _ _ (.u [.c (.r (.s 2 (r_Trip x4_1))),.c (.r (.v (.bool x4_2)))]) rfl (hF _ _ _ (lh hg ht hx4)) (.inl rfl) (nb rfl) (by cbv;(try simp only[hrda_Trip])) ?_;cbv;have hb2:x3_2=true∨x3_2=false:=by cases x3_2<;>simp
 rcases hb2 with hb2|hb2
 ·rw[ab hb2] at h;have hK_:=h;subst hb2;have h:=hK_;clear hK_;cbv;have hb3:x4_2=true∨x4_2=false:=by cases x4_2<;>simp
  rcases hb3 with hb3|hb3
  ·rw[ab hb3] at h;have hK_:=h;subst hb3;have h:=hK_;clear hK_;cbv;iterate 3 try(rw[hb2];cbv)
   cases hb4:(lt x2_2_2_2 0)
   rotate_left
   ·rw[ab hb4] at h;cbv;obtain rfl:=Option.some.inj h;exact ARet.mk trivial hX.symm
   rw[aa hb4] at h;cbv;obtain⟨x5,hx5,h⟩:=af h;try dsimp only at h
   refine ACallR.mk _ _ (.c (.r (.s 6 (r_Scan x5)))) rfl (hF _ _ _ (o8 hg ht hx5)) (.inl rfl) (nb rfl) (by cbv;(try simp only[hrda_Scan])) ?_;cbv;obtain⟨x6,hx6,h⟩:=af h;try dsimp only at h
   refine ACall.mk _ _ rfl (hF _ _ _ (rj hg ht hx6)) (.inl rfl) (nb rfl) ?_;cbv;obtain⟨x7,hx7,h⟩:=af h;try dsimp only at h
   refine ACallR.mk _ _ (.c (.r (.s 6 (r_Scan x7)))) rfl (hF _ _ _ (vC hg ht hx7)) (.inl rfl) (nb rfl) (by cbv;(try simp only[hrda_Scan])) ?_;cbv;obtain⟨x8,hx8,h⟩:=af h;try dsimp only at h
   refine ACallR.mk _ _ (.c (.r (.s 6 (r_Scan x8)))) rfl (hF _ _ _ (lm hg ht hx8)) (.inl rfl) (nb rfl) (by cbv;(try simp only[hrda_Scan])) ?_;cbv;obtain⟨x9,hx9,h⟩:=af h;try dsimp only at h
   refine ACallR.mk _ _ (.c (.r (.s 1 (r_I64 x9)))) rfl (hF _ _ _ (v9 hg ht hx9)) (.inl rfl) (nb rfl) (by cbv;(try simp only[hrda_I64])) ?_;cbv
   cases hb5:(eq (llen (r_I64 x9)) 0)
   ·rw[aa hb5] at h;cbv;iterate 5 try(rw[hb5];cbv)
    obtain rfl:=Option.some.inj h;exact ARet.mk trivial hX.symm
   rw[ab hb5] at h;cbv;iterate 2 try(rw[hb5];cbv)
   obtain⟨x10,hx10,h⟩:=af h;try dsimp only at h
   refine ACallR.mk _ _ (.c (.r (.s 6 (r_Scan x10)))) rfl (hF _ _ _ (lf hg ht hx10)) (.inl rfl) (nb rfl) (by cbv;(try simp only[hrda_Scan])) ?_;cbv;iterate 2 try(rw[hb5];cbv)
   obtain⟨x11,hx11,h⟩:=af h;try dsimp only at h
   refine ACall.mk _ _ rfl (hF _ _ _ (zT hg ht hx11)) (.inl rfl) (nb rfl) ?_;cbv;try(rw[hb5];cbv)
   cases hb6:x11
   rotate_left
   ·rw[ab hb6] at h;cbv;iterate 5 try(rw[hb6];cbv)
    obtain rfl:=Option.some.inj h;exact ARet.mk trivial hX.symm
   rw[aa hb6] at h;cbv;iterate 5 try(rw[hb6];cbv)
   obtain rfl:=Option.some.inj h;exact ARet.mk trivial hX.symm
  rw[aa hb3] at h;have hK_:=h;subst hb3;have h:=hK_;clear hK_;cbv;obtain rfl:=Option.some.inj h;exact ARet.mk trivial hX.symm
 rw[aa hb2] at h;have hK_:=h;subst hb2;have h:=hK_;clear hK_;cbv;have hb7:x4_2=true∨x4_2=false:=by cases x4_2<;>simp
 rcases hb7 with hb7|hb7
 ·rw[ab hb7] at h;have hK_:=h;subst hb7;have h:=hK_;clear hK_;cbv;obtain rfl:=Option.some.inj h;exact ARet.mk trivial hX.symm
 rw[aa hb7] at h;have hK_:=h;subst hb7;have h:=hK_;clear hK_;cbv;iterate 3 try(rw[hb2];cbv)
 obtain rfl:=Option.some.inj h;exact ARet.mk trivial hX.symm
end Go.Vs
