/- The law FnTruth holds: whatever its arguments, the call returns true and leaves them as they were. No condition. -/
import Derived.Test.YticpmdigfdpmfaaGreatBel
import Derived.Test.YticpmdigfdpmfaaGreatDra
import Derived.Test.YticpmdigfdpmfaaGreatLai
import Derived.Test.YticpmdigfdpmfaaGreatIs
import Derived.Test.YticpmdigfdpmfaaGreatOrder
import Derived.Test.YticpmdigfdpmfaaGreatRows
set_option linter.unusedVariables false
set_option linter.unusedSimpArgs false
set_option linter.unusedSectionVars false
namespace Go.Vs
open Go.IntWalk
theorem zA (t:Trip):∀l:List Trip,t∈l→fz G.real TE.real t l=.ret true
 |[],h=>by cases h
 |z::l,h=>by
  rw[fz,de,de,Ee,al]
  split
  ·rfl
  ·rename_i hne
   rcases List.mem_cons.1 h with rfl|h
   ·exact absurd ⟨rfl,rfl⟩ hne
   ·exact zA t l h
theorem xD {t:Trip} {l:List Trip} (h:t∈l):nI G.real TE.real l t=true:=by
 unfold nI
 rw[aN,zA t l h];rfl
theorem wN (s:ByteArray):∀(l:List ByteArray) (v:Int),s∈l→0≤v→v+l.length≤4194304→∃k,fA G.real TE.real s l v=.ret k∧0≤k
 |[],v,h,_,_=>by cases h
 |z::l,v,h,h0,h1=>by
  simp only[List.length_cons] at h1
  rw[fA,fE,al]
  split
  ·exact⟨v,rfl,h0⟩
  ·rename_i hne
   rcases List.mem_cons.1 h with rfl|h
   ·exact absurd rfl hne
   ·rw[bh,w64 (by omega) (by omega)]
    exact wN s l (v+1) h (by omega) (by omega)
theorem uK {s:ByteArray} {l:List ByteArray} (h:s∈l) (hl:l.length≤4000000):0≤nA G.real TE.real l s:=by
 obtain⟨k,h1,h2⟩:=wN s l 0 h (by omega) (by omega)
 unfold nA
 rw[aN,h1];exact h2
theorem wJ {n:Network} (ht:n.tot≤1048576) (b:Belief) {now:Int} {w2:List Trip}:∀(w1:List Trip) (x:ByteArray),(∀t∈w1,cf n t=true∧stN n t.Leg t.Day≤now∧enN n t.Leg t.Day≤now)→
 ∃y,bZ G.real TE.real n b now (w1++w2) x=bZ G.real TE.real n b now w2 y∧(w1=[]→y=x)∧∀l0 t,w1=l0++[t]→y=(lgOf n t.Leg).To
 |[],x,_=>⟨x,rfl,fun _=>rfl,fun l0 t h=>by simp at h⟩
 |t::w1,x,h=>by
  obtain⟨q1,q2,q3⟩:=h t (by simp)
  have hr:runsB n t.Leg t.Day=true:=by unfold cf at q1;simp only[Bool.and_eq_true] at q1;exact q1.2
  obtain⟨r1,r2,_⟩:=cw (dj ht) hr
  obtain⟨y,y1,y2,y3⟩:=wJ ht b (now:=now) (w2:=w2) w1 (lgOf n t.Leg).To (fun u hu=>h u (by simp[hu]))
  refine⟨y,?_,fun e=>by simp at e,fun l0 u e=>?_⟩
  ·rw[List.cons_append,bZ,kM ht,rE ht,if_pos q1,if_pos q1,ae,ae,dc,dc,al,al,if_neg (by omega),if_neg (by omega),ag r1,bo,ar (cL r1 r2)]
   exact y1
  ·cases l0 with
   |nil=>
    simp at e
    obtain⟨rfl,rfl⟩:=e
    exact y2 rfl
   |cons v l0=>
    simp at e
    exact y3 l0 u e.2
theorem B9 (a:List Int) (h:a.length≤9223372036854775807∧∀x∈a,0≤x∧x≤255):jO G.real TE.real a=some true:=by
 unfold jO
 rw[aN,Bz,al]
 split
 ·rfl
 ·obtain⟨⟨n,f,to,w⟩,e,hW,_⟩:=iJ a (by omega)
  have hW:NetW n:=hW
  have ht:=ru hW
  rw[e,ae]
  simp only[vc]
  obtain⟨r,r1,r2,r3,r4⟩:=Cw ht f to w
  rw[r1,r2,ae,ae]
  cases hr:r.2 with
  |false=>rfl
  |true=>
   obtain⟨hb,hf,hto,hw,hp⟩:=r4 hr
   have hn:=gb ht hb
   have hlen:=dj ht
   rw[bS,bS,dc,al]
   split
   ·rfl
   ·rename_i hw0
    rw[show max w 0=w by omega] at hp
    have htr:∀t∈r.1,cf n t=true:=fun t htm=>by
     unfold cf
     rw[hb,(aV hn hp t htm).1];rfl
    obtain⟨v,v1,_⟩:=CP a h.2 (i:=1) (by omega)
    obtain⟨u,u1,u2,u3⟩:=CP a h.2 (i:=2) (by omega)
    have hl2:=nS n 3 r.1
    rw[vd ht 3 w f htr (by omega),ae,v1,ae,BK _ _ _ (by omega),ae,u1,ae]
    simp only[mw,bh,jz,oB]
    rw[w64 (n:=5*u) (by omega) (by omega),w64 (by omega) (by omega)]
    have hnow:w≤w+5*u:=by omega
    generalize w+5*u=now at hnow ⊢
    have hS:=u7 hn hb (th:=3) (by omega) hf (by omega) hw hp (by omega) (jG v (stl n 3 r.1) 1)
    have hsub:=jG v (stl n 3 r.1) 1
    have hsl:=hsub.length_le
    generalize qX v 1 (stl n 3 r.1)=K at hS hsub hsl ⊢
    have hlF:(heS 3 w f::K).length≤200:=by simp only[List.length_cons];omega
    rw[FW ht _ (by omega),ae,al]
    split
    ·rfl
    ·rename_i h60
     have h60:(beB n (heS 3 w f::K) 3 now).Rides.length<60:=by omega
     obtain⟨w1,w2,e1,e2,e3⟩:=ue (n:=n) now r.1
     rw[e1] at hp hsub
     have pt:=aV hn hp
     rw[lY] at hsub
     obtain⟨K1,K2,hK,k1,k2⟩:=List.sublist_append_iff.1 hsub
     subst hK
     obtain⟨y,y1,y2,y3⟩:=wJ ht (beB n (heS 3 w f::(K1++K2)) 3 now) (now:=now) (w2:=w2) w1 f (fun t htm=>⟨htr t (by rw[e1];simp[htm]),by have:=pt t (by simp[htm]);have:=e2 t htm;omega,e2 t htm⟩)
     have hbl:(beB n (heS 3 w f::(K1++K2)) 3 now).Places.length≤4000000:=by
      have:=zF ht (heS 3 w f::(K1++K2)) 3 now
      unfold Belief.tot at this
      omega
     have wait:(∀t∈w2,now<stN n t.Leg t.Day)→bZ G.real TE.real n (beB n (heS 3 w f::(K1++K2)) 3 now) now w2 y=some (.out y)→
      (cl (ma G.real TE.real n (beB n (heS 3 w f::(K1++K2)) 3 now) r.1 f now) fun x10=>br x10 (lP (kL G.real TE.real (beB n (heS 3 w f::(K1++K2)) 3 now)) fun x11=>some (G.real.lt 0 x11)) (some false))=some true:=by
      intro hlt hout
      have hm:=CW.2 (Eg hn hb (th:=3) (by omega) hf (by omega) hw hp hnow e2 hlt k1 k2 hS ⟨y2,y3⟩)
      unfold ma
      rw[e1,y1,hout,ae,rU,aN,jz,decide_eq_true (uK hm hbl),ae,bS,aN,u6 ht,dc]
      have:=List.length_pos_of_mem hm
      rw[decide_eq_true (by omega)]
     rcases e3 with e3|⟨t,w3,e3,e4⟩
     ·subst e3
      exact wait (by simp) (by rw[bZ])
     ·subst e3
      by_cases hst:now<stN n t.Leg t.Day
      ·exact wait (GU hn hp hst) (by rw[bZ,kM ht,if_pos (htr t (by rw[e1];simp)),ae,dc,decide_eq_true hst,bS])
      ·have htt:=htr t (by rw[e1];simp)
       have hm:=Ev h60 hlen (Em hn hb (th:=3) (by omega) hf (by omega) hw hp e2 (by omega) e4 k1 k2 hS)
       have hout:bZ G.real TE.real n (beB n (heS 3 w f::(K1++K2)) 3 now) now (t::w3) y=some (.ret true):=by
        rw[bZ,kM ht,rE ht,if_pos htt,if_pos htt,ae,ae,dc,dc,al,al,if_neg hst,if_pos e4,aN,xD hm]
       unfold ma
       rw[e1,y1,hout,ae,yh,ae,bS,aN,u6 ht,dc]
       have:=List.length_pos_of_mem hm
       rw[decide_eq_true (by omega)]
end Go.Vs
namespace Go.Vs
theorem law8 (a:List Int) (h:a.length≤9223372036854775807∧∀x∈a,0≤x∧x≤255):jO G.real TE.real a=some true:=B9 a h
end Go.Vs
namespace Go.Proofs.YticpmdigfdpmfaaGreat.fnTruth
open Go.Vs Go.RowKit Go.WideShapes Go.ChangeShapes
set_option linter.unusedVariables false
set_option maxRecDepth 100000
theorem w8 (as0:List A) (h:pg Tryz.prog 8 Tryz.f8.params.toList as0):Go.Vs.Fn Tryz.prog 8 as0 (.c (.r (.v (.bool true)))):=by
 rw[Tryz.params8] at h
 obtain⟨x0,xs0,rfl,⟨ts0,t0,q0⟩,h⟩:=h
 rw[show lB Tryz.prog 8 22=some [.sl [.int .u8]] from by kernel_rfl] at t0
 cases t0
 rw[show wW Tryz.prog 22=false from by kernel_rfl] at q0
 obtain⟨r0,rfl,q0⟩:=q0
 obtain⟨_,_,e0,q0,e0_⟩:=qi q0
 cases e0
 obtain⟨b0,rfl,l0,q0⟩:=CJ q0
 obtain⟨a0,rfl,p0⟩:=qk BT b0 q0
 rw[List.length_map] at l0
 have h:=h
 subst h
 exact vD rfl rfl (law8 _ ⟨l0,p0⟩)
theorem lifted (os:Os) (started:os.Started) (H:Type) (enc:TypeId×Value→H):
 ReturnsInHanded {} Tryz.checked os 8 .any (Rows.fnTruthSpec.pre6 enc Tryz.prog Tryz.f8 Rows.fnTruthRow.domain false) (Rows.fnTruthSpec.post enc Tryz.prog Tryz.f8 false true false false):=by
 refine returnsInHanded_of_change (C:=Tryz.checked) (s:=Rows.fnTruthSpec) (by kernel_rfl) started (by kernel_rfl) Tryz.func8
  (ChangeSpec.witness6 (enc:=enc) (C:=Tryz.checked) false ⟨#[],#[.slice none 0 0],[]⟩ 8 (by kernel_rfl) (by kernel_rfl) (by kernel_rfl) (by kernel_rfl)) ?_
 intro W base args ds gs before hval hW _ _
 refine kP (n:=8) (tb:=4) rfl rfl Tryz.underlying4 (by kernel_rfl) (by kernel_rfl) (fun ds hl=>?_) w8 W base args ds gs before hval hW
 rw[Tryz.params8] at hl
 match ds,hl with
 |[d0],_=>exact⟨rfl,rfl,rfl⟩
theorem wa:joinedFacts Tryz.prog 8 Tryz.f8 Rows.fnTruthSpec Rows.fnTruthRow=true:=by
 unfold joinedFacts
 exact(au (au (au (au (au (au (au (au (au (au (au (au (au (au (au (au (au (au (au (au (au (au (au (au (au (au (au (au (au (au (au (by kernel_rfl) ur) uq) (by kernel_rfl)) (by kernel_rfl)) (by kernel_rfl)) (by kernel_rfl)) (by kernel_rfl)) (by kernel_rfl)) (by kernel_rfl)) (by kernel_rfl)) (by kernel_rfl)) (by kernel_rfl)) (by kernel_rfl)) (by kernel_rfl)) (by kernel_rfl)) (by kernel_rfl)) (by kernel_rfl)) (by kernel_rfl)) (by kernel_rfl)) (by kernel_rfl)) (by kernel_rfl)) (by kernel_rfl)) (by kernel_rfl)) rJ) qD) (by rw[rM];rfl)) (by rw[vg];rfl)) (by kernel_rfl)) (by kernel_rfl)) (by kernel_rfl)) (by kernel_rfl))
theorem holds:Rows.FnTruthSaid:=
 OpenClaim.holds_of_wide 8 Tryz.f8 rfl rfl rfl rfl rfl rfl rfl ⟨rfl,rfl,rfl,rfl,rfl⟩ rfl rfl rfl rfl rfl (by kernel_rfl) Tryz.func8 wa
  (of_decide_eq_true (by kernel_rfl)) (by unfold Func.isWrapper;first|(rw[if_pos (by decide+kernel)];kernel_rfl)|(rw[if_neg (by decide+kernel)];exact⟨rfl,rfl⟩))
  (fun os started H enc _=>lifted os started H enc)
end Go.Proofs.YticpmdigfdpmfaaGreat.fnTruth
