/- Part of the proofs of this seat's laws: Roo. No condition. -/
import Derived.Test.YticpmdigfdpmfaaGreatFre
import Derived.Test.YticpmdigfdpmfaaGreatLac
import Derived.Test.YticpmdigfdpmfaaGreatLab
set_option linter.unusedVariables false
set_option linter.unusedSimpArgs false
set_option linter.unusedSectionVars false
namespace Go.Vs
open Go.IntWalk
theorem wK:∀(N:Nat) (l:List Int),l.Nodup→(∀x∈l,0≤x∧x<N)→l.length≤N
 |0,l,_,h=>by
  cases l with
  |nil=>simp
  |cons x l=>have:=h x (by simp);omega
 |N+1,l,hd,h=>by
  by_cases hm:(N:Int)∈l
  ·have h1:=wK N (l.erase (N:Int)) (hd.erase _) (fun x hx=>by
    have:=(hd.mem_erase_iff).1 hx
    have h2:=h x this.2
    have h3:=this.1
    omega)
   rw[List.length_erase_of_mem hm] at h1
   omega
  ·have h1:=wK N l hd (fun x hx=>by
    have h2:=h x hx
    have h3:x≠(N:Int):=fun e=>hm (e▸hx)
    omega)
   omega
structure Tak (n:Network) (f:Int→Int→Option Int) (st:Nat) (b0:List Int) (k:Nat) (e:Int) (acc:List Trip):Prop where
 late:∀t∈acc,e<enN n t.Leg t.Day∧∀j,j≤k→0≤lab (itr n f st j b0) (ixN (plc n) (lgOf n t.Leg).To)→enN n t.Leg t.Day≤lab (itr n f st j b0) (ixN (plc n) (lgOf n t.Leg).To)
 once:(acc.map (·.Leg)).Nodup
 by_:∀t∈acc,(0≤t.Leg∧t.Leg<n.Legs.length)∧∃v,f t.Leg v=some t.Day
theorem rp {n:Network} {f:Int→Int→Option Int} (hok:FOk n f) {a:Int} {s p:ByteArray} (hs:s∈plc n) {b0:List Int} (hb:b0=fU n (ixN (plc n) s) a):∀(k:Nat) (x:ByteArray) (e:Int) (acc r:List Trip),x∈plc n→e=lab (itr n f (ixN (plc n) s) k b0) (ixN (plc n) x)→0≤e→Path n p x (rdy n e (decide (ixN (plc n) x=ixN (plc n) s))) acc→
 Tak n f (ixN (plc n) s) b0 k e acc→chF n f (ixN (plc n) s) b0 k x e acc=some r→Path n p s (max a 0) r∧(r.map (·.Leg)).Nodup∧∀t∈r,(0≤t.Leg∧t.Leg<n.Legs.length)∧∃v,f t.Leg v=some t.Day
 |0,x,e,acc,r,hx,he,h0,hp,ht,hc=>by
  rw[chF] at hc
  cases hc
  refine⟨?_,ht.once,ht.by_⟩
  have h1:e=lab (fU n (ixN (plc n) s) a) (ixN (plc n) x):=by rw[he,hb];rfl
  rw[iU (cj hs).1] at h1
  split at h1
  ·rename_i hh
   have:=pe hx hs hh
   subst this
   rw[←h1]
   unfold rdy at hp
   rw[if_pos (by simp)] at hp
   exact hp
  ·omega
 |k+1,x,e,acc,r,hx,he,h0,hp,htk,hc=>by
  have hn:=hok.net
  have hl:b0.length=(plc n).length:=by rw[hb];exact en _ _ _
  have hlow0:∀i,0≤lab b0 i→max a 0≤lab b0 i:=fun i hi=>by
   rw[hb,iU (cj hs).1] at hi ⊢
   split at hi
   ·rw[if_pos ‹_›];exact Int.le_refl _
   ·omega
  rw[chF] at hc
  split at hc
  ·rename_i t ht
   obtain⟨z,z1,z2,z3,z4,z5,z6,z7⟩:=w8 (n:=n) n.Legs 0 (by simp) ht
   have hfm:(lgOf n t.Leg).From∈plc n:=(c7 n _).2 ⟨_,by rw[z1];exact z2,.inl rfl⟩
   unfold dyv at z6
   split at z6
   ·cases z6
   ·rename_i hge
    have hai:aI n z=ixN (plc n) (lgOf n t.Leg).From:=by rw[z1];rfl
    rw[hai] at hge z6
    have hpn:=hok.ok z6
    have hc2:=hn.change
    have hlow:=xz (st:=ixN (plc n) s) hok k hl hlow0 (ixN (plc n) (lgOf n t.Leg).From) (by omega)
    obtain⟨r1,r2,r3,r4⟩:=cV (n:=n) (by have:=hn.len;omega) hpn.1
    obtain⟨q1,q2,q3,q4⟩:=ku hn r1 r2 r3 r4
    have hrd:lab (itr n f (ixN (plc n) s) k b0) (ixN (plc n) (lgOf n t.Leg).From)≤stN n t.Leg t.Day:=by
     have h3:=hpn.2
     unfold rdy at h3
     split at h3<;>omega
    have hne:ixN (plc n) x≠ixN (plc n) s:=fun hh=>by
     have hxs:=pe hx hs hh
     subst hxs
     have hst0:lab b0 (ixN (plc n) x)=max a 0:=by rw[hb,iU (cj hs).1,if_pos rfl]
     have hm:=(mQ (st:=ixN (plc n) x) hok (k+1) (i:=ixN (plc n) x) hl (by rw[hst0];omega)).2
     rw[hst0,←he,←z7] at hm
     omega
    have hto:(lgOf n t.Leg).To=x:=by rw[z1];exact z5
    refine rp hok hs hb k _ _ (t::acc) r hfm rfl (by omega) ⟨hpn.1,rfl,?_,?_⟩ ⟨?_,?_,?_⟩ hc
    ·exact hpn.2
    ·unfold rdy at hp
     rw[if_neg (by simp[hne])] at hp
     rw[z7,z1,z5];exact hp
    ·intro t' ht'
     rcases List.mem_cons.1 ht' with rfl|ht'
     ·refine⟨by omega,fun j hj hj0=>?_⟩
      rw[hto] at hj0 ⊢
      have hm:=(mQ (st:=ixN (plc n) s) hok (k+1-j) (best:=itr n f (ixN (plc n) s) j b0) (i:=ixN (plc n) x) ((ff j _).trans hl) hj0).2
      rw[←pg,show j+(k+1-j)=k+1 from by omega,←he] at hm
      omega
     ·have:=htk.late t' ht'
      exact⟨by omega,fun j hj=>this.2 j (by omega)⟩
    ·rw[List.map_cons,List.nodup_cons]
     refine⟨fun hm=>?_,htk.once⟩
     obtain⟨t',ht',e'⟩:=List.mem_map.1 hm
     have q:=htk.late t' ht'
     have q2:=q.2 (k+1) (Nat.le_refl _)
     rw[show t'.Leg=t.Leg from e',hto,←he] at q2
     have q1:=q.1
     rw[show t'.Leg=t.Leg from e'] at q1
     have:=q2 h0
     omega
    ·intro t' ht'
     rcases List.mem_cons.1 ht' with rfl|ht'
     ·exact⟨⟨r1,r2⟩,_,z6⟩
     ·exact htk.by_ t' ht'
  ·cases hc
structure RoomWay (n:Network) (l:List Booking) (c:List Trip) (s p:ByteArray) (a w:Int) (r:List Trip):Prop where
 bk:bkB n l=true
 wt:1≤w
 src:s∈plc n
 dst:p∈plc n
 tm:a≤100000
 path:Path n p s (max a 0) r
 once:(r.map (·.Leg)).Nodup
 room:∀t∈r,I_hasTrip G.real TE.real c t=false∧w≤rmN n l t.Leg t.Day
 len:r.length≤n.Legs.length
theorem wJ {n:Network} {l:List Booking} {c:List Trip} {s p:ByteArray} {a w:Int} (hn:NetOk n) (hb:bkB n l=true) (hw:1≤w) (hs:s∈plc n) (hp:p∈plc n) (ha:a≤100000) {y:Nat} {e:Int} {r:List Trip}
 (he:e=lab (itr n (fF n c l w) (ixN (plc n) s) y (fU n (ixN (plc n) s) a)) (ixN (plc n) p)) (h0:0≤e)
 (h:chF n (fF n c l w) (ixN (plc n) s) (fU n (ixN (plc n) s) a) y p e []=some r):RoomWay n l c s p a w r:=by
 have hok:FOk n (fF n c l w):=⟨hn,(gf hn c l w).ok⟩
 obtain⟨k1,k2,k3⟩:=rp hok hs rfl y p e [] r hp he h0 rfl ⟨fun t ht=>(by cases ht),List.nodup_nil,fun t ht=>(by cases ht)⟩ h
 refine⟨hb,hw,hs,hp,ha,k1,k2,fun t ht=>?_,?_⟩
 ·obtain⟨_,v,hv⟩:=k3 t ht
  have:=(m8 hv).1
  unfold pF at this
  simp only[Bool.and_eq_true,Bool.not_eq_true',decide_eq_true_eq] at this
  exact this.2
 ·have:=wK n.Legs.length (r.map (·.Leg)) k2 (fun x hx=>by
   obtain⟨t,ht,rfl⟩:=List.mem_map.1 hx
   exact(k3 t ht).1)
  simpa using this
end Go.Vs
namespace Go.Vs
open Go.IntWalk
theorem zT {n:Network} (ht:n.tot≤1048576) (l:List Booking) (hl:l.length≤1048576) (c:List Trip) (s p:ByteArray) (a w:Int):
 ∃r,fj G.real TE.real n l c s p a w=some r∧gb G.real TE.real n l c s p a w=some r∧r.1.length≤1000∧(r.2=false→r.1=[])∧(r.2=true→RoomWay n l c s p a w r.1):=by
 have pl:=dT n
 have hlen:=jM ht
 have hS:∀m:Int,m≤9223372036854775807→bV G.real TE.real n l c s a w m=some (bfL n l c s a w m):=fun m hm=>Fp ht l hl c s a w hm
 unfold fj gb mM
 rw[A0 (by omega),Bp ht l hl]
 simp only[af,aP,iu,iy,tG (show(plc n).length≤4194304 by omega)]
 rw[hS _ (by omega),af]
 simp only[cP,ib,cw,cO,ao]
 cases hb:bkB n l with
 |false=>
  have e:bfL n l c s a w ((plc n).length:Int)=[]:=by unfold bfL;rw[if_neg (by simp[hb])]
  refine⟨([],false),?_,rfl,by simp,fun _=>rfl,fun h=>(by cases h)⟩
  rw[e]
  split
  ·rfl
  ·rfl
 |true=>
  have hn:=iM ht (zJ hb)
  have hlen:=hn.len
  rw[dK]
  by_cases hw:w<1
  ·have e:bfL n l c s a w ((plc n).length:Int)=[]:=by unfold bfL;rw[if_neg (fun h=>by omega)]
   refine⟨([],false),?_,by rw[if_pos hw],by simp,fun _=>rfl,fun h=>(by cases h)⟩
   rw[e]
   split
   ·rfl
   ·rfl
  ·have hbf:∀m:Int,bfL n l c s a w m=lq n (fF n c l w) s a m:=fun m=>by unfold bfL;rw[if_pos ⟨hb,by omega⟩]
   have hf:=gf hn c l w
   have hok:FOk n (fF n c l w):=⟨hn,hf.ok⟩
   rw[if_neg hw,hbf]
   unfold oY
   rw[xk (by omega)]
   simp only[af,aP,iu,iy,nt (show(plc n).length≤4194304 by omega),cP,cw,cO,ao,i5,pS]
   rw[aj (c:=((plc n).length:Int)≤4611686018427387904) (by omega),show cX 0 ((plc n).length:Int)=(plc n).length+1 from by unfold cX;omega]
   by_cases h1:s∈plc n∧a≤100000
   ·by_cases h2:p∈plc n
    ·
     have hi:=cj h1.1
     have hj:=cj h2
     have hR:∀m:Int,0≤m→lq n (fF n c l w) s a m=itr n (fF n c l w) (ixN (plc n) s) m.toNat (fU n (ixN (plc n) s) a):=fun m hm=>sO h1.1 h1.2 hm
     have hll:=en n (ixN (plc n) s) a
     have hlb:=sM (n:=n) hi.1 h1.2
     have hW:=wl1 hn hf (a:=a) h1.1 h1.2 (x2:=ix (plc n) p) (by rw[gN h2];omega) ((plc n).length+1) 0 (by omega)
     rw[show(0:Int)=((0:Nat):Int) from rfl]
     rw[show([]:List (List Int))=((List.range 0).map fun j=>itr n (fF n c l w) (ixN (plc n) s) j (fU n (ixN (plc n) s) a)) from rfl,hW,Nat.zero_add]
     simp only[af,kJ]
     have g:((List.range ((plc n).length+1)).map fun j=>itr n (fF n c l w) (ixN (plc n) s) j (fU n (ixN (plc n) s) a))[(plc n).length]?=some (itr n (fF n c l w) (ixN (plc n) s) (plc n).length (fU n (ixN (plc n) s) a)):=by
      rw[List.getElem?_map,List.getElem?_range (by omega)];rfl
     have hp:∀m,ixN (plc n) p<(itr n (fF n c l w) (ixN (plc n) s) m (fU n (ixN (plc n) s) a)).length:=fun m=>by rw[ff,hll];exact hj.1
     have hpP:=hp (plc n).length
     rw[hR _ (by omega),Int.toNat_natCast,gN h2]
     by_cases h3:lab (itr n (fF n c l w) (ixN (plc n) s) (plc n).length (fU n (ixN (plc n) s) a)) (ixN (plc n) p)<((0:Nat):Int)
     ·refine⟨([],false),?_,?_,by simp,fun _=>rfl,fun h=>(by cases h)⟩
      ·rw[if_neg (by omega),if_neg (by omega),aj (by omega),Int.toNat_natCast,ax (cU hpP),if_pos h3]
      ·rw[ax g,aj (by simp;omega),aj (by omega),Int.toNat_natCast,ax (cU hpP),if_pos h3];rfl
     ·have hRS:∀m:Nat,bV G.real TE.real n l c s a w (m:Int)=some (itr n (fF n c l w) (ixN (plc n) s) m (fU n (ixN (plc n) s) a))∨1000<m:=fun m=>by
       rcases Nat.lt_or_ge 1000 m with hm|hm
       ·exact .inr hm
       ·left;rw[hS _ (by omega),hbf,hR _ (by omega),Int.toNat_natCast]
      obtain⟨y,y1,y2,y3⟩:=Ah (fun m=>lab (itr n (fF n c l w) (ixN (plc n) s) m (fU n (ixN (plc n) s) a)) (ixN (plc n) p)=lab (itr n (fF n c l w) (ixN (plc n) s) (plc n).length (fU n (ixN (plc n) s) a)) (ixN (plc n) p)) (plc n).length rfl
      have q1:=wl2 (R:=fun m=>itr n (fF n c l w) (ixN (plc n) s) m (fU n (ixN (plc n) s) a)) (P:=(plc n).length) (p:=ixN (plc n) p) (by omega) hp y 1000000000 0 (by omega) (by omega) (fun u _ hu=>y3 u (by omega)) (by rw[Nat.zero_add];exact y2)
      have q2:=sl1 (R:=fun m=>itr n (fF n c l w) (ixN (plc n) s) m (fU n (ixN (plc n) s) a)) (p:=ixN (plc n) p) hRS hp y 1000000000 0 (by omega) (by omega) (fun u _ hu=>y3 u (by omega)) (by rw[Nat.zero_add];exact y2)
      rw[Nat.zero_add] at q1 q2
      obtain⟨r,r1,r2⟩:=Bm hok hll y (x:=p) [] h2 (fun j hj=>by
       subst hj
       intro he
       exact y3 j (by omega) (he.symm.trans y2))
      rw[y2] at r1
      have q3:=sl2 hn hll hlb hRS y 1000000000 p _ [] r (by omega) (by omega) h2 (by simp;omega) r1
      have q4:=wl3 hn hf h1.1 hll hlb (P:=(plc n).length) (by omega) y 1000000000 p _ [] r (by omega) (by omega) h2 (by simp;omega) r1
      simp only[List.length_nil,Nat.zero_add] at r2
      refine⟨(r,true),?_,?_,by simp;omega,fun h=>(by cases h),fun _=>wJ hn hb (by omega) h1.1 h2 h1.2 y2.symm (by omega) r1⟩
      ·rw[if_neg (by omega),if_neg (by omega),aj (by omega),Int.toNat_natCast,ax (cU hpP),if_neg h3,aj (by omega),q2,af,gN h1.1,q3,af]
      ·rw[ax g,aj (by simp;omega),aj (by omega),Int.toNat_natCast,ax (cU hpP),if_neg h3,q1]
       simp only[af]
       rw[q4]
       simp only[af,kJ,pH,List.length_reverse]
       have q5:=wl4 r.reverse (by simp;omega) r.length 1000000000 [] (by omega) (by simp) (by simp;omega)
       rw[w64 (by omega) (by omega),q5,List.take_of_length_le (by simp),List.reverse_reverse,List.nil_append]
       rfl
    ·refine⟨([],false),?_,?_,by simp,fun _=>rfl,fun h=>(by cases h)⟩
     ·rw[if_pos (pY.2 h2)]
     ·have hla:=t9 (n:=n) (f:=fF n c l w) (m:=0) h1.1 h1.2 (by omega)
      have hi:=(cj h1.1).1
      rw[dm,xF hn hf s a (by omega),af]
      simp only[ib,cP,iu,cO,ao]
      rw[hla,if_neg (by omega),if_pos (pY.2 h2)];rfl
   ·have e:∀m:Int,lq n (fF n c l w) s a m=[]:=fun m=>by
     unfold lq
     rw[if_pos]
     by_cases h2:s∈plc n
     ·right;left
      have:¬a≤100000:=fun h=>h1 ⟨h2,h⟩
      omega
     ·exact .inl h2
    refine⟨([],false),?_,?_,by simp,fun _=>rfl,fun h=>(by cases h)⟩
    ·rw[e]
     split
     ·rfl
     ·rfl
    ·rw[dm,xF hn hf s a (by omega),af,e]
     rfl
end Go.Vs
