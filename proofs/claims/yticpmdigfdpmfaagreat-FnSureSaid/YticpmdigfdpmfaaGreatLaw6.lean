/- The law FnSure holds: whatever its arguments, the call returns true and leaves them as they were. No condition. -/
import Derived.Test.YticpmdigfdpmfaaGreatBel
import Derived.Test.YticpmdigfdpmfaaGreatDra
import Derived.Test.YticpmdigfdpmfaaGreatLah
import Derived.Test.YticpmdigfdpmfaaGreatLaf
import Derived.Test.YticpmdigfdpmfaaGreatIs
import Derived.Test.YticpmdigfdpmfaaGreatOrder
import Derived.Test.YticpmdigfdpmfaaGreatRows
set_option linter.unusedVariables false
set_option linter.unusedSimpArgs false
set_option linter.unusedSectionVars false
namespace Go.Vs
open Go.IntWalk
theorem xS {n:Network} (ht:n.tot≤1048576) {t:Trip} (h:cf n t=true):iN G.real TE.real n t=some (stN n t.Leg t.Day):=by
 unfold iN
 rw[yl ht,ae,h,bS]
 unfold cf at h
 rw[Bool.and_eq_true] at h
 obtain⟨r1,r2,r3,r4⟩:=cw (dj ht) h.2
 rw[show bK G.real TE.real n t=some (stN n t.Leg t.Day) from iq (gb ht h.1) r1 r2 r3 r4];rfl
theorem xi {t u:Trip} (h:t.Leg=u.Leg∧t.Day=u.Day):t=u:=by
 cases t;cases u
 obtain⟨h1,h2⟩:=h
 dsimp only at h1 h2
 rw[h1,h2]
theorem zo {n:Network} {l:List Scan} {x a d:Int} {t:Trip} (h:∀u,mrB n l x a u=true↔u=t):∀(ls:List Leg) (k:Int),rdL n l x a d ls k=if t.Day=d∧k≤t.Leg∧t.Leg<k+ls.length then[t] else[]
 |[],k=>by
  rw[rdL,if_neg]
  intro hh
  have:=hh.2.2
  simp at this
  omega
 |z::ls,k=>by
  rw[rdL,zo h ls (k+1)]
  simp only[List.length_cons]
  by_cases hk:(⟨k,d⟩:Trip)=t
  ·subst hk
   rw[if_pos ((h _).2 rfl),if_neg (by dsimp only;omega),if_pos (by dsimp only;omega)]
  ·rw[if_neg (fun e=>hk ((h _).1 e))]
   have hne:¬(t.Day=d∧t.Leg=k):=fun e=>hk (xi ⟨e.2.symm,e.1.symm⟩)
   by_cases hc:t.Day=d∧k+1≤t.Leg∧t.Leg<k+1+ls.length
   ·rw[if_pos hc,if_pos (by omega)]
   ·rw[if_neg hc,if_neg (by omega)]
theorem zr {n:Network} {l:List Scan} {x a:Int} {t:Trip} (h:∀u,mrB n l x a u=true↔u=t) (h0:0≤t.Leg) (h1:t.Leg<n.Legs.length):∀(m:Nat) (d:Int),rdD n l x a m d=if d≤t.Day∧t.Day<d+m then[t] else[]
 |0,d=>by rw[rdD,if_neg (by omega)]
 |m+1,d=>by
  rw[rdD,zo h,zr h h0 h1 m (d+1)]
  by_cases he:t.Day=d
  ·rw[if_pos (by omega),if_neg (by omega),if_pos (by omega)];rfl
  ·rw[if_neg (fun e=>he e.1)]
   by_cases hc:d+1≤t.Day∧t.Day<d+1+m
   ·rw[if_pos hc,if_pos (by omega)];rfl
   ·rw[if_neg hc,if_neg (by omega)];rfl
theorem Ed {n:Network} (hn:NetOk n) (hb:netB n=true) {th w now:Int} {p x:ByteArray} (hth:1≤th∧th≤9999) (hx:x∈plc n) (h0:0≤w) (h1:w≤100000) {w1 w3:List Trip} {t:Trip} (hp:hZ n p x w (w1++t::w3)) (hst:stN n t.Leg t.Day≤now) (hen:now<enN n t.Leg t.Day)
 (hS:Seen n (heS th w x::stl n th (w1++t::w3)) th):
 beB n (heS th w x::stl n th (w1++t::w3)) th now=⟨[],[t]⟩∧mrB n (heS th w x::stl n th (w1++t::w3)) th now t=true:=by
 have hc:=hn.change
 obtain⟨y,b,s1,s2,s3,s4⟩:=gH hp
 have ptt:=aV hn hp t (by simp)
 have htrip:cf n t=true:=by unfold cf;rw[hb,ptt.1];rfl
 have pt3:=aV hn s2.2.2.2
 have hw1:∀u∈w1,enN n u.Leg u.Day≤now:=fun u hu=>by
  obtain⟨l1,l2,e⟩:=List.append_of_mem hu
  subst e
  have hp2:hZ n p x w ((l1++[u])++(l2++t::w3)):=by simpa using hp
  obtain⟨y',b',c1,c2,c3,c4⟩:=gH hp2
  rw[(c4 u l1 rfl).2] at c2
  have:=aV hn c2 t (by simp)
  omega
 have hF:heS th w x::stl n th (w1++t::w3)=(heS th w x::stl n th w1++[ldS n th t])++(drS n th t::stl n th w3):=by
  rw[lY];simp[stl]
 have pt1:=aV hn hp
 obtain⟨l1,l2⟩:=yQ (n:=n) (th:=th) (now:=now) hS.cn hF (fun s hs=>by
  rcases List.mem_append.1 hs with hs|hs
  ·rcases List.mem_cons.1 hs with rfl|hs
   ·have:=ptt.2.1
    show w≤now;omega
   ·obtain⟨u,hu,h⟩:=gX hs
    have h2:=hw1 u hu
    have h3:=(pt1 u (by simp[hu])).2.2.1
    rcases h with rfl|rfl
    ·show stN n u.Leg u.Day≤now;omega
    ·exact h2
  ·rw[List.mem_singleton.1 hs];exact hst) (fun s hs=>by
  rcases List.mem_cons.1 hs with rfl|hs
  ·exact hen
  ·obtain⟨u,hu,h⟩:=gX hs
   have h2:=pt3 u hu
   rcases h with rfl|rfl
   ·show now<stN n u.Leg u.Day;omega
   ·show now<enN n u.Leg u.Day;omega)
 rw[List.getLast?_append] at l1
 have e1:laB n (heS th w x::stl n th (w1++t::w3)) th now=(ldS n th t,true):=l1
 have e2:nxB n (heS th w x::stl n th (w1++t::w3)) th now=(drS n th t,true):=l2
 have hB:isB n (drS n th t,true) now:=⟨rfl,rfl,hst⟩
 have hk4:¬(ldS n th t).Kind=4:=by show¬(3:Int)=4;omega
 have hmr:∀u,mrB n (heS th w x::stl n th (w1++t::w3)) th now u=true↔u=t:=fun u=>by
  unfold mrB mrC
  rw[e1,e2,if_pos rfl,if_neg hk4,if_pos hB]
  simp only[Bool.and_eq_true,decide_eq_true_eq]
  constructor
  ·exact fun h=>(xi h.2.2.2).symm
  ·rintro rfl
   exact⟨htrip,hst,hen,rfl,rfl⟩
 refine⟨?_,(hmr t).2 rfl⟩
 obtain⟨r1,r2,r3,r4⟩:=cw (n:=n) (by have:=hn.len;omega) ptt.1
 unfold beB
 rw[zr hmr r1 r2,if_pos (by omega),List.filter_eq_nil_iff.2 (fun q _=>by
  unfold mbB mbC
  rw[e1,e2,if_pos rfl,if_neg hk4,if_pos hB,decide_eq_false (p:=_∧_) (fun h=>by
   have h2:enN n t.Leg t.Day≤now:=h.1
   omega)]
  simp)]
 rfl
theorem DE (a:List Int) (h:a.length≤9223372036854775807∧∀x∈a,0≤x∧x≤255):lk G.real TE.real a=some true:=by
 unfold lk
 rw[aN,Bz,al]
 split
 ·rfl
 ·obtain⟨⟨n,f,to,w⟩,e,hW,_⟩:=iJ a (by omega)
  have hW:NetW n:=hW
  have ht:=ru hW
  rw[e,ae]
  simp only[vc]
  obtain⟨r,r1,r2,r3,r4⟩:=Cw ht f to w
  rw[r1,r2,ae,ae]
  cases hr:r.2 with
  |false=>rfl
  |true=>
   obtain⟨hb,hf,hto,hw,hp⟩:=r4 hr
   have hn:=gb ht hb
   have hlen:=dj ht
   rw[bS,bS,dc,al]
   split
   ·rfl
   ·rename_i hw0
    rw[show max w 0=w by omega] at hp
    simp only[oB,de,vW,al]
    split
    ·rfl
    ·rename_i hl0
     have htr:∀t∈r.1,cf n t=true:=fun t htm=>by
      unfold cf
      rw[hb,(aV hn hp t htm).1];rfl
     obtain⟨v,v1,v2,_⟩:=CP a h.2 (i:=1) (by omega)
     obtain⟨u,u1,u2,u3⟩:=CP a h.2 (i:=2) (by omega)
     have hl2:=nS n 3 r.1
     have m0:=Int.tmod_nonneg (r.1.length:Int) v2
     have m1:=Int.tmod_lt_of_pos v (b:=(r.1.length:Int)) (by omega)
     obtain⟨t,g1,g2⟩:=zX (l:=r.1) m0 m1
     have htt:=htr t g2
     obtain⟨w1,w3,hsplit⟩:=List.append_of_mem g2
     have hrun:=(aV hn hp t g2).1
     obtain⟨q1,q2,q3,q4⟩:=cw (n:=n) hlen hrun
     have hz:=cL q1 q2
     have htk:=(hn.legs _ (ln q1 q2)).takes
     have k0:=Int.tmod_nonneg (lgOf n t.Leg).Takes u2
     have k1:=Int.tmod_lt_of_pos u (b:=(lgOf n t.Leg).Takes) (by omega)
     rw[vd ht 3 w f htr (by omega),ae,v1,ae,ag (by omega),ag m0,bo,ar g1,xS ht htt,ae,u1,ae,ag q1,bo,ar hz,ag (by omega)]
     have hrng:=aV hn hp t g2
     simp only[bh]
     rw[w64 (by omega) (by omega)]
     have hst:stN n t.Leg t.Day≤stN n t.Leg t.Day+u.tmod (lgOf n t.Leg).Takes:=by omega
     have hen:stN n t.Leg t.Day+u.tmod (lgOf n t.Leg).Takes<enN n t.Leg t.Day:=by unfold enN;omega
     generalize stN n t.Leg t.Day+u.tmod (lgOf n t.Leg).Takes=now at hst hen ⊢
     have hS:=u7 hn hb (th:=3) (by omega) hf (by omega) hw hp (by omega) (List.Sublist.refl (stl n 3 r.1))
     have hlF:(heS 3 w f::stl n 3 r.1).length≤200:=by simp only[List.length_cons];omega
     rw[hsplit] at hS hp
     obtain⟨b1,b2⟩:=Ed hn hb (th:=3) (by omega) hf (by omega) hw hp hst hen hS
     rw[←hsplit] at b1 b2
     have hsu:lg G.real TE.real n (heS 3 w f::stl n 3 r.1) 3 now=some true:=by
      unfold lg
      rw[FW ht _ (by omega),ae,aN,u6 ht,b1];rfl
     rw[FW ht _ (by omega),ae,hsu,ae,b1,bS]
     simp only[List.length_cons,List.length_nil]
     rw[if_pos (by omega),show G.real.nat 0=0 from rfl,ar (show([t]:List Trip)[0]?=some t from rfl),Ee,decide_eq_true ⟨rfl,rfl⟩,bS,mr_i ht _ (by omega),ae,b2]
end Go.Vs
namespace Go.Vs
theorem law6 (a:List Int) (h:a.length≤9223372036854775807∧∀x∈a,0≤x∧x≤255):lk G.real TE.real a=some true:=DE a h
end Go.Vs
namespace Go.Proofs.YticpmdigfdpmfaaGreat.fnSure
open Go.Vs Go.RowKit Go.WideShapes Go.ChangeShapes
set_option linter.unusedVariables false
set_option maxRecDepth 100000
theorem w8 (as0:List A) (h:pg Tryz.prog 8 Tryz.f6.params.toList as0):Go.Vs.Fn Tryz.prog 6 as0 (.c (.r (.v (.bool true)))):=by
 rw[Tryz.params6] at h
 obtain⟨x0,xs0,rfl,⟨ts0,t0,q0⟩,h⟩:=h
 rw[show lB Tryz.prog 8 22=some [.sl [.int .u8]] from by kernel_rfl] at t0
 cases t0
 rw[show wW Tryz.prog 22=false from by kernel_rfl] at q0
 obtain⟨r0,rfl,q0⟩:=q0
 obtain⟨_,_,e0,q0,e0_⟩:=qi q0
 cases e0
 obtain⟨b0,rfl,l0,q0⟩:=CJ q0
 obtain⟨a0,rfl,p0⟩:=qk BT b0 q0
 rw[List.length_map] at l0
 have h:=h
 subst h
 exact xX rfl rfl (law6 _ ⟨l0,p0⟩)
theorem lifted (os:Os) (started:os.Started) (H:Type) (enc:TypeId×Value→H):
 ReturnsInHanded {} Tryz.checked os 6 .any (Rows.fnSureSpec.pre6 enc Tryz.prog Tryz.f6 Rows.fnSureRow.domain false) (Rows.fnSureSpec.post enc Tryz.prog Tryz.f6 false true false false):=by
 refine returnsInHanded_of_change (C:=Tryz.checked) (s:=Rows.fnSureSpec) (by kernel_rfl) started (by kernel_rfl) Tryz.func6
  (ChangeSpec.witness6 (enc:=enc) (C:=Tryz.checked) false ⟨#[],#[.slice none 0 0],[]⟩ 8 (by kernel_rfl) (by kernel_rfl) (by kernel_rfl) (by kernel_rfl)) ?_
 intro W base args ds gs before hval hW _ _
 refine kP (n:=8) (tb:=4) rfl rfl Tryz.underlying4 (by kernel_rfl) (by kernel_rfl) (fun ds hl=>?_) w8 W base args ds gs before hval hW
 rw[Tryz.params6] at hl
 match ds,hl with
 |[d0],_=>exact⟨rfl,rfl,rfl⟩
theorem wa:joinedFacts Tryz.prog 6 Tryz.f6 Rows.fnSureSpec Rows.fnSureRow=true:=by
 unfold joinedFacts
 exact(au (au (au (au (au (au (au (au (au (au (au (au (au (au (au (au (au (au (au (au (au (au (au (au (au (au (au (au (au (au (au (by kernel_rfl) ur) uq) (by kernel_rfl)) (by kernel_rfl)) (by kernel_rfl)) (by kernel_rfl)) (by kernel_rfl)) (by kernel_rfl)) (by kernel_rfl)) (by kernel_rfl)) (by kernel_rfl)) (by kernel_rfl)) (by kernel_rfl)) (by kernel_rfl)) (by kernel_rfl)) (by kernel_rfl)) (by kernel_rfl)) (by kernel_rfl)) (by kernel_rfl)) (by kernel_rfl)) (by kernel_rfl)) (by kernel_rfl)) (by kernel_rfl)) rJ) qD) (by rw[rM];rfl)) (by rw[vg];rfl)) (by kernel_rfl)) (by kernel_rfl)) (by kernel_rfl)) (by kernel_rfl))
theorem holds:Rows.FnSureSaid:=
 OpenClaim.holds_of_wide 6 Tryz.f6 rfl rfl rfl rfl rfl rfl rfl ⟨rfl,rfl,rfl,rfl,rfl⟩ rfl rfl rfl rfl rfl (by kernel_rfl) Tryz.func6 wa
  (of_decide_eq_true (by kernel_rfl)) (by unfold Func.isWrapper;first|(rw[if_pos (by decide+kernel)];kernel_rfl)|(rw[if_neg (by decide+kernel)];exact⟨rfl,rfl⟩))
  (fun os started H enc _=>lifted os started H enc)
end Go.Proofs.YticpmdigfdpmfaaGreat.fnSure
